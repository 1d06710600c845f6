/- Schools: their groups and teachers; schools said in the program's types: what School returns. By cCC.py. -/
import Derived.Test.YtkbfcofifhngfaaGreatCB
import Derived.Test.YtkbfcofifhngfaaGreatSX
namespace Go.Proofs.YtkbfcofifhngfaaGreat
open Go Tx Go.RowKit
set_option linter.unusedSimpArgs false
set_option linter.unusedVariables false

/-- A teacher: subjects and hours. -/
structure Tc where
  o : Option Addr
  c : Nat
  T : List Int
  h : Int
abbrev Tc.cs (t : Tc) : List Value := [.slice t.o t.T.length t.c, iv t.h]
def Tc.d (t : Tc) : List Int × Int := (t.T, t.h)
/-- A school: slots, rooms, subjects, groups, teachers. -/
structure Sc where
  sl : Int
  ro : Int
  su : Int
  go : Option Addr
  gc : Nat
  G : List Rw
  to : Option Addr
  tc : Nat
  T : List Tc
abbrev Sc.v (s : Sc) : Value := .agg #[iv s.sl, iv s.ro, iv s.su, .slice s.go s.G.length s.gc, .slice s.to s.T.length s.tc]
/-- What a school says. -/
structure SD where
  sl : Int
  ro : Int
  su : Int
  G : List (List Int)
  T : List (List Int × Int)
def Sc.d (s : Sc) : SD := ⟨s.sl, s.ro, s.su, s.G.map Rw.xs, s.T.map Tc.d⟩
/-- A school lies there. -/
structure ScIn (s : Sc) (w : World) : Prop where
  g : Rd 1 Rw.cs (.slice s.go s.G.length s.gc) s.G w
  r : RR s.G w
  t : Rd 2 Tc.cs (.slice s.to s.T.length s.tc) s.T w
  h : ∀ t ∈ s.T, Rd 1 iF (.slice t.o t.T.length t.c) t.T w
/-- Its lists are not longer than a million. -/
structure ScB (s : Sc) : Prop where
  g : s.G.length ≤ 1000000
  r : ∀ r ∈ s.G, r.xs.length ≤ 1000000
  t : s.T.length ≤ 1000000
  h : ∀ t ∈ s.T, t.T.length ≤ 1000000
theorem ScIn.below {s : Sc} {w w' : World} (h : ScIn s w) (hb : Below w.heap.size w w') : ScIn s w' := ⟨h.g.below hb, h.r.below hb, h.t.below hb, fun t ht => (h.h t ht).below hb⟩
theorem ScB.d {s s' : Sc} (h : ScB s) (hd : s'.d = s.d) : ScB s' := by
  obtain ⟨h1, h2, h3, h4⟩ := h
  simp only [Sc.d, SD.mk.injEq] at hd
  obtain ⟨_, _, _, e1, e2⟩ := hd
  have l1 := congrArg List.length e1
  have l2 := congrArg List.length e2
  simp only [List.length_map] at l1 l2
  refine ⟨by omega, fun r hr => ?_, by omega, fun t ht => ?_⟩
  · obtain ⟨q, hq, hqe⟩ := List.mem_map.1 (e1 ▸ List.mem_map_of_mem hr : r.xs ∈ s.G.map Rw.xs)
    rw [← hqe]; exact h2 q hq
  · obtain ⟨q, hq, hqe⟩ := List.mem_map.1 (e2 ▸ List.mem_map_of_mem ht : t.d ∈ s.T.map Tc.d)
    have : q.T = t.T := congrArg Prod.fst hqe
    rw [← this]; exact h4 q hq
def tlD : Code → Code | .seq _ b => b | c => c

theorem c14_1 : rest 1 body14 = .seq (.region 1 (hdO (rest 1 body14)) true) (tlD (rest 1 body14)) := by kernel_rfl
set_option maxHeartbeats 4000000 in
set_option maxRecDepth 100000 in
theorem School_rest (sl ro su : Int) (go to : Option Addr) (gc tc : Nat) (G : List Rw) (T : List Tc) (y : Rws (G.map Rw.xs)) (w : World) (hrd : Rd 2 Tc.cs (.slice to T.length tc) T w) (hR : ∀ t ∈ T, Rd 1 iF (.slice t.o t.T.length t.c) t.T w) (hl : T.length ≤ 1000000) (hrl : ∀ t ∈ T, t.T.length ≤ 1000000) :
    VC Tryz.prog (tlD (rest 1 body14)) ⟨42, [(1, .ptr 0 0), (2, .ptr 1 0), (3, .ptr 2 0)], [(0, .cells [.v (iv sl), .v (iv ro), .v (iv su), .v (.slice go G.length gc), .v (.slice to T.length tc)] 25), (1, .cells [.v (iv 0), .v (iv 0), .v (iv 0), .v (.slice none 0 0), .v (.slice none 0 0)] 34), (2, .cells [.v (iv sl), .v (iv ro), .v (iv su), .v (.slice y.o y.C.length y.c), .v (.slice none 0 0)] 34)], 3, fun w2 => Below w.heap.size w w2 ∧ St w.heap.size y.In w2, z0⟩
      (endΦ env Tryz.f14 fun s σ => (∀ w', σ.h w' → Below w.heap.size w w') ∧ ∀ β w', σ.h w' → (∀ i b, lk σ.m i = some b → b.live = true → St w.heap.size (fun w2 => b.ok β w2 (β i)) w') → ∃ x : { y' : Sc // y'.d = ⟨sl, ro, su, G.map Rw.xs, T.map Tc.d⟩ }, s.c β = x.1.v ∧ St w.heap.size (ScIn x.1) w') := by
  refine VC.of env mixed ?_
  repeat'
   conv => whnf
   first
    | refine zA ?_ | refine zB ?_ | refine zC ?_ | refine zD ?_ | refine zE ?_ | refine zF ?_ | refine zG ?_ | refine zH ?_ | refine zJ ?_ | refine zI ?_ | refine splT ?_ | refine splF ?_ | refine splNot ?_
    | ((first | refine splIn (fun hc => ?_) (fun hc => ?_) | refine splD (fun hc => ?_) (fun hc => ?_) | refine splE (fun hc => ?_) (fun hc => ?_) | refine splNE (fun hc => ?_) (fun hc => ?_)) <;> first | (exfalso; omega) | (exfalso; dsimp only at hc; omega) | skip)
  conv => whnf
  refine loopD 5 (fun D : List Tc => [(1, .ptr 0 0), (2, .ptr 1 0), (3, .ptr 2 0), (4, .v (iv D.length))]) (fun D => (0, .cells [.v (iv sl), .v (iv ro), .v (iv su), .v (.slice go G.length gc), .v (.slice to T.length tc)] 25) :: (1, .cells [.v (iv 0), .v (iv 0), .v (iv 0), .v (.slice none 0 0), .v (.slice none 0 0)] 34) :: (2, .cells [.v (iv sl), .v (iv ro), .v (iv su), .v (.slice y.o y.C.length y.c), oSV 3 4 D] 34) :: oM 3 4 2 Tc.cs 52 D)
    (fun D w' => (Below w.heap.size w w' ∧ St w.heap.size y.In w') ∧ ∀ s ∈ D, St w.heap.size (Rd 1 iF (.slice s.o s.T.length s.c) s.T) w') (fun D => D.length ≤ T.length ∧ D.map Tc.d = (T.map Tc.d).take D.length) (fun D => T.length - D.length) (Dis.ent (x := []) ⟨Nat.zero_le _, rfl⟩ (Ent.weak rfl ⟨rfl, rfl, rfl, rfl, trivial⟩ ⟨rfl, rfl, rfl, trivial⟩ (fun w' h => ⟨h, fun r hr => by cases hr⟩))) (fun D _ => by cases D <;> exact ⟨rfl, rfl⟩) ?_
  intro D ⟨hk, hmap⟩
  rcases Nat.lt_or_ge D.length T.length with hkl | hkl
  · obtain ⟨⟨so, sc, xs, sp⟩, hx⟩ : ∃ b, T[D.length]? = some b := ⟨_, List.getElem?_eq_getElem hkl⟩
    obtain ⟨_, ad, rfl, _⟩ := hrd.ptr (by omega)
    have e1 := fun (w' : World) hw' => rd_fld (hrd.below (w' := w') hw') hx
    have hr := hR _ (List.mem_of_getElem? hx)
    have hrb := hrl _ (List.mem_of_getElem? hx)
    dsimp only at hr hrb
    have hm : (T.map Tc.d)[D.length]? = some (xs, sp) := by rw [List.getElem?_map, hx]; rfl
    have hnew : ∀ y : Option Addr × Nat, (D ++ [(⟨y.1, y.2, xs, sp⟩ : Tc)]).map Tc.d = (T.map Tc.d).take (D ++ [(⟨y.1, y.2, xs, sp⟩ : Tc)]).length := fun y => by
      rw [List.map_append, hmap, List.length_append, List.length_singleton, List.take_add_one, hm]; rfl
    have hl2 : ∀ y : Option Addr × Nat, (D ++ [(⟨y.1, y.2, xs, sp⟩ : Tc)]).length = D.length + 1 := fun y => by simp
    have hh0 : ∀ (o : Option Addr) (c : Nat), xs = [] → ∀ w', (fun D w' => (Below w.heap.size w w' ∧ St w.heap.size y.In w') ∧ ∀ s ∈ D, St w.heap.size (Rd 1 iF (.slice s.o s.T.length s.c) s.T) w') D w' → (o = none ∧ c = 0 → (fun D w' => (Below w.heap.size w w' ∧ St w.heap.size y.In w') ∧ ∀ s ∈ D, St w.heap.size (Rd 1 iF (.slice s.o s.T.length s.c) s.T) w') (D ++ [(⟨o, c, xs, sp⟩ : Tc)]) w') := fun o c hxs w' h hoc => ⟨h.1, fun r hr => by
      rcases List.mem_append.1 hr with hr | hr
      · exact h.2 r hr
      · rw [List.mem_singleton] at hr; subst hr; subst hxs; obtain ⟨rfl, rfl⟩ := hoc; exact fun _ _ => .inl ⟨rfl, rfl⟩⟩
    have hh1 : ∀ (b d : Nat) (w' : World), w.heap.size ≤ b → (fun D w' => (Below w.heap.size w w' ∧ St w.heap.size y.In w') ∧ ∀ s ∈ D, St w.heap.size (Rd 1 iF (.slice s.o s.T.length s.c) s.T) w') D w' → w'.ownsRow 0 3 1 (.slice (some ⟨b, 0, none⟩) xs.length d) xs.length (xs.flatMap iF) →
        (fun D w' => (Below w.heap.size w w' ∧ St w.heap.size y.In w') ∧ ∀ s ∈ D, St w.heap.size (Rd 1 iF (.slice s.o s.T.length s.c) s.T) w') (D ++ [(⟨some ⟨b, 0, none⟩, d, xs, sp⟩ : Tc)]) w' := fun b d w' hb h ho => ⟨h.1, fun r hr => by
      rcases List.mem_append.1 hr with hr | hr
      · exact h.2 r hr
      · rw [List.mem_singleton] at hr; subst hr; exact own_st (f := iF) (fun _ => rfl) hb rfl ho⟩
    generalize hn : D.length = n at *
    cases xs with
    | nil =>
      have hlo := fun (w' : World) (hb : Below w.heap.size w w') => list_none so sc w' (hr.below hb)
      cases D with
      | nil =>
        repeat'
         conv => whnf
         first
          | refine zA ?_ | refine zB ?_ | refine zC ?_ | refine zD ?_ | refine zE ?_ | refine zF ?_ | refine zG ?_ | refine zH ?_ | refine zJ ?_ | refine zI ?_ | refine splT ?_ | refine splF ?_ | refine splNot ?_
          | ((first | refine splIn (fun hc => ?_) (fun hc => ?_) | refine splD (fun hc => ?_) (fun hc => ?_) | refine splE (fun hc => ?_) (fun hc => ?_) | refine splNE (fun hc => ?_) (fun hc => ?_)) <;> first | (exfalso; omega) | (exfalso; dsimp only at hc; omega) | skip)
          | refine Exists.intro (α := List Value) [.slice so ([] : List Int).length sc] ⟨⟨rfl, fun w' hw' => e1 w' hw'.1.1 0 _ rfl⟩, ?_⟩
          | refine Exists.intro (α := List Value) [iv sp] ⟨⟨rfl, fun w' hw' => e1 w' hw'.1.1 1 _ rfl⟩, ?_⟩
          | ((with_reducible show CallEv _ _ 49 _ _ _ _ _); refine callE (k := 49) (fun β w' hbw => hlo _ hbw.1.1) ?_)
        exact Dis.ent (x := [(⟨none, 0, [], sp⟩ : Tc)]) ⟨⟨by have := hl2 (none, 0); simp only [List.nil_append] at this; omega, hnew (none, 0)⟩, by have := hl2 (none, 0); simp only [List.nil_append] at this; omega⟩ (Ent.ren (rho [(3, 6), (4, 7)]) rfl rfl ⟨rfl, rfl, rfl, by rw [← hn]; rfl, trivial⟩ ⟨rfl, rfl, rfl, rfl, trivial⟩ (fun w' h => hh0 none 0 rfl w' h ⟨rfl, rfl⟩))
      | cons a D =>
        simp only [List.length_cons] at hn
        repeat'
         conv => whnf
         first
          | refine zA ?_ | refine zB ?_ | refine zC ?_ | refine zD ?_ | refine zE ?_ | refine zF ?_ | refine zG ?_ | refine zH ?_ | refine zJ ?_ | refine zI ?_ | refine splT ?_ | refine splF ?_ | refine splNot ?_
          | ((first | refine splIn (fun hc => ?_) (fun hc => ?_) | refine splD (fun hc => ?_) (fun hc => ?_) | refine splE (fun hc => ?_) (fun hc => ?_) | refine splNE (fun hc => ?_) (fun hc => ?_)) <;> first | (exfalso; omega) | (exfalso; dsimp only at hc; omega) | skip)
          | refine Exists.intro (α := List Value) [.slice so ([] : List Int).length sc] ⟨⟨rfl, fun w' hw' => e1 w' hw'.1.1 0 _ rfl⟩, ?_⟩
          | refine Exists.intro (α := List Value) [iv sp] ⟨⟨rfl, fun w' hw' => e1 w' hw'.1.1 1 _ rfl⟩, ?_⟩
          | ((with_reducible show CallEv _ _ 49 _ _ _ _ _); refine callE (k := 49) (fun β w' hbw => hlo _ hbw.1.1) ?_)
        have hl3 : (a :: D ++ [(⟨none, 0, [], sp⟩ : Tc)]).length = n + 1 := hl2 (none, 0)
        exact Dis.ent (x := a :: D ++ [(⟨none, 0, [], sp⟩ : Tc)]) ⟨⟨by omega, hnew (none, 0)⟩, by omega⟩ (Ent.ren (rho [(3, 6), (4, 7)]) rfl rfl ⟨rfl, rfl, rfl, by rw [← hn]; simp; rfl, trivial⟩ ⟨rfl, rfl, by simp [oSV]; rfl, by simp [oM]; rfl, trivial⟩ (fun w' h => hh0 none 0 rfl w' h ⟨rfl, rfl⟩))
    | cons x xs =>
      have hlo := fun (w' : World) (hb : Below w.heap.size w w') => list_own (x :: xs) so sc w' (hr.below hb) (by simp) hrb
      cases D with
      | nil =>
        repeat'
         conv => whnf
         first
          | refine zA ?_ | refine zB ?_ | refine zC ?_ | refine zD ?_ | refine zE ?_ | refine zF ?_ | refine zG ?_ | refine zH ?_ | refine zJ ?_ | refine zI ?_ | refine splT ?_ | refine splF ?_ | refine splNot ?_
          | ((first | refine splIn (fun hc => ?_) (fun hc => ?_) | refine splD (fun hc => ?_) (fun hc => ?_) | refine splE (fun hc => ?_) (fun hc => ?_) | refine splNE (fun hc => ?_) (fun hc => ?_)) <;> first | (exfalso; omega) | (exfalso; dsimp only at hc; omega) | skip)
          | refine Exists.intro (α := List Value) [.slice so (x :: xs).length sc] ⟨⟨rfl, fun w' hw' => e1 w' hw'.1.1 0 _ rfl⟩, ?_⟩
          | refine Exists.intro (α := List Value) [iv sp] ⟨⟨rfl, fun w' hw' => e1 w' hw'.1.1 1 _ rfl⟩, ?_⟩
          | ((with_reducible show CallEv _ _ 49 _ _ _ _ _); refine callO 5 [] (.os 5 6 (xs.length + 1)) (xs.length + 1) 1 ((x :: xs).flatMap iF) 3 rfl (fun β w' _ hbw => (hlo w' hbw.1.1).mono fun _ _ ⟨b, c, h1, h2, h3, h4⟩ => ⟨b, c, h1, h2, h3, h4⟩) ?_)
          | refine appG env 7 1 1 [.os 5 6 (xs.length + 1), .v (iv sp)] 52 0 [] [] rfl rfl rfl rfl rfl (by decide) rfl rfl rfl (fun _ => Nat.le_refl _) (by omega) (by decide) rfl (.inl ⟨rfl, rfl, rfl, rfl⟩) rfl ?_
        refine Dis.mk3 (w0 := w) (rho [(3, 8), (4, 9)]) [5] rfl (fun i hi => by rw [List.mem_singleton] at hi; subst hi; exact ⟨_, rfl, rfl⟩) (fun w' h => h.1.1) (fun β w1 hok hw1 hge => ⟨[(⟨some ⟨β 5, 0, none⟩, β 6, x :: xs, sp⟩ : Tc)], ⟨⟨by have := hl2 (none, 0); simp only [List.nil_append, List.length_singleton] at this ⊢; omega, hnew (some ⟨β 5, 0, none⟩, β 6)⟩, by have := hl2 (none, 0); simp only [List.nil_append, List.length_singleton] at this ⊢; omega⟩, ⟨⟨_, rfl, rfl⟩, ⟨_, rfl, rfl⟩, ⟨_, rfl, rfl⟩, ⟨_, rfl, by rw [← hn]; rfl⟩, trivial⟩, ⟨⟨rfl, _, rfl, fun _ => rfl, fun w2 y hy => hy⟩, ⟨rfl, _, rfl, fun _ => rfl, fun w2 y hy => hy⟩, ⟨rfl, _, rfl, fun _ => rfl, fun w2 y hy => hy⟩, ⟨rfl, _, rfl, fun _ => rfl, fun w2 y hy => hy⟩, trivial⟩, rfl, fun w2 hw2 hLo => hh1 (β 5) (β 6) w2 (hge 5 _ rfl rfl) hw2 (hLo 5 (by simp) _ rfl)⟩)
      | cons a D =>
        simp only [List.length_cons] at hn
        repeat'
         conv => whnf
         first
          | refine zA ?_ | refine zB ?_ | refine zC ?_ | refine zD ?_ | refine zE ?_ | refine zF ?_ | refine zG ?_ | refine zH ?_ | refine zJ ?_ | refine zI ?_ | refine splT ?_ | refine splF ?_ | refine splNot ?_
          | ((first | refine splIn (fun hc => ?_) (fun hc => ?_) | refine splD (fun hc => ?_) (fun hc => ?_) | refine splE (fun hc => ?_) (fun hc => ?_) | refine splNE (fun hc => ?_) (fun hc => ?_)) <;> first | (exfalso; omega) | (exfalso; dsimp only at hc; omega) | skip)
          | refine Exists.intro (α := List Value) [.slice so (x :: xs).length sc] ⟨⟨rfl, fun w' hw' => e1 w' hw'.1.1 0 _ rfl⟩, ?_⟩
          | refine Exists.intro (α := List Value) [iv sp] ⟨⟨rfl, fun w' hw' => e1 w' hw'.1.1 1 _ rfl⟩, ?_⟩
          | ((with_reducible show CallEv _ _ 49 _ _ _ _ _); refine callO 5 [] (.os 5 6 (xs.length + 1)) (xs.length + 1) 1 ((x :: xs).flatMap iF) 3 rfl (fun β w' _ hbw => (hlo w' hbw.1.1).mono fun _ _ ⟨b, c, h1, h2, h3, h4⟩ => ⟨b, c, h1, h2, h3, h4⟩) ?_)
          | refine appG env 7 1 1 [.os 5 6 (xs.length + 1), .v (iv sp)] 52 (D.length + 1) ((a :: D).flatMap Tc.cs) [3] rfl rfl rfl rfl rfl (by decide) rfl rfl rfl (fun h => by cases h) (by omega) (by show (D.length + 1 + 1) * 32 ≤ 140737488355328; omega) rfl (.inr ⟨3, 4, rfl, rfl, rfl, (by show 3 < 8; decide)⟩) rfl ?_
        have hl3 : ∀ y : Option Addr × Nat, (a :: D ++ [(⟨y.1, y.2, x :: xs, sp⟩ : Tc)]).length = D.length + 1 + 1 := fun y => by rw [hl2]; omega
        refine Dis.mk3 (w0 := w) (rho [(3, 8), (4, 9)]) [5] rfl (fun i hi => by rw [List.mem_singleton] at hi; subst hi; exact ⟨_, rfl, rfl⟩) (fun w' h => h.1.1) (fun β w1 hok hw1 hge => ⟨a :: D ++ [(⟨some ⟨β 5, 0, none⟩, β 6, x :: xs, sp⟩ : Tc)], ⟨⟨by have := hl3 (some ⟨β 5, 0, none⟩, β 6); dsimp only at this; omega, hnew (some ⟨β 5, 0, none⟩, β 6)⟩, by have := hl3 (some ⟨β 5, 0, none⟩, β 6); dsimp only at this; omega⟩, ⟨⟨_, rfl, rfl⟩, ⟨_, rfl, rfl⟩, ⟨_, rfl, rfl⟩, ⟨_, rfl, by rw [hl3 (some ⟨β 5, 0, none⟩, β 6), ← hn]; rfl⟩, trivial⟩, ⟨⟨rfl, _, rfl, fun _ => rfl, fun w2 y hy => hy⟩, ⟨rfl, _, rfl, fun _ => rfl, fun w2 y hy => hy⟩, ⟨rfl, _, rfl, fun _ => by simp [oSV]; rfl, fun w2 y hy => by simp [oSV] at hy ⊢; exact hy⟩, by simp [oM]; exact ⟨⟨rfl, _, rfl, fun _ => rfl, fun w2 y hy => by simp [Blk.ok] at hy ⊢; exact hy⟩, trivial⟩⟩, rfl, fun w2 hw2 hLo => hh1 (β 5) (β 6) w2 (hge 5 _ rfl rfl) hw2 (hLo 5 (by simp) _ rfl)⟩)
  · have hk2 : D.length = T.length := by omega
    rw [hk2, List.take_of_length_le (Nat.le_of_eq (List.length_map ..))] at hmap
    have hsd : ∀ (o : Option Addr) (c : Nat), (⟨sl, ro, su, y.o, y.c, y.C, o, c, D⟩ : Sc).d = ⟨sl, ro, su, G.map Rw.xs, T.map Tc.d⟩ := fun o c => by
      show (⟨sl, ro, su, y.C.map Rw.xs, D.map Tc.d⟩ : SD) = _
      rw [y.h, hmap]
    cases D with
    | nil =>
      repeat'
       conv => whnf
       first
        | refine zA ?_ | refine zB ?_ | refine zC ?_ | refine zD ?_ | refine zE ?_ | refine zF ?_ | refine zG ?_ | refine zH ?_ | refine zJ ?_ | refine zI ?_ | refine splT ?_ | refine splF ?_ | refine splNot ?_
        | ((first | refine splIn (fun hc => ?_) (fun hc => ?_) | refine splD (fun hc => ?_) (fun hc => ?_) | refine splE (fun hc => ?_) (fun hc => ?_) | refine splNE (fun hc => ?_) (fun hc => ?_)) <;> first | (exfalso; omega) | (exfalso; dsimp only at hc; omega) | skip)
      exact ⟨fun w' h => h.1.1, fun β w' hB hblk => ⟨⟨⟨sl, ro, su, y.o, y.c, y.C, none, 0, []⟩, hsd none 0⟩, rfl, fun w2 k2 => ⟨(hB.1.2 w2 k2).1, (hB.1.2 w2 k2).2, .inl ⟨rfl, rfl⟩, fun r hr => by cases hr⟩⟩⟩
    | cons a L =>
      repeat'
       conv => whnf
       first
        | refine zA ?_ | refine zB ?_ | refine zC ?_ | refine zD ?_ | refine zE ?_ | refine zF ?_ | refine zG ?_ | refine zH ?_ | refine zJ ?_ | refine zI ?_ | refine splT ?_ | refine splF ?_ | refine splNot ?_
        | ((first | refine splIn (fun hc => ?_) (fun hc => ?_) | refine splD (fun hc => ?_) (fun hc => ?_) | refine splE (fun hc => ?_) (fun hc => ?_) | refine splNE (fun hc => ?_) (fun hc => ?_)) <;> first | (exfalso; omega) | (exfalso; dsimp only at hc; omega) | skip)
      refine ⟨fun w' h => h.1.1, fun β w' hB hblk => ?_⟩
      obtain ⟨z, h1, h2⟩ := oEnd (sz := 2) (f := Tc.cs) (fun _ => rfl) a L (hblk 3 _ rfl rfl)
      refine ⟨⟨⟨sl, ro, su, y.o, y.c, y.C, z.1, z.2, a :: L⟩, hsd z.1 z.2⟩, ?_, fun w2 k2 => ⟨(hB.1.2 w2 k2).1, (hB.1.2 w2 k2).2, h2 w2 k2, fun r hr => hB.2 r hr w2 k2⟩⟩
      exact congrArg (fun v => Value.agg #[iv sl, iv ro, iv su, Value.slice y.o y.C.length y.c, v]) h1
set_option maxHeartbeats 4000000 in
set_option maxRecDepth 100000 in
theorem School_ok (x : Sc) (w : World) (h : ScIn x w) (hB : ScB x) : Calls Tryz.prog 14 #[x.v] w fun e w' => ∃ y : { y : Sc // y.d = x.d }, e = .returned y.1.v ∧ Below w.heap.size w w' ∧ St w.heap.size (ScIn y.1) w' := by
  obtain ⟨sl, ro, su, go, gc, G, to, tc, T⟩ := x
  obtain ⟨hg, hr, ht, hh⟩ := h
  obtain ⟨b1, b2, b3, b4⟩ := hB
  dsimp only at hg hr ht hh b1 b2 b3 b4 ⊢
  have h48 := fun (w' : World) (hb : Below w.heap.size w w') => famS hb (rows_ok G go gc w' (hg.below hb) (hr.below hb) b1 b2)
  have hrest := fun y => School_rest sl ro su go to gc tc G T y w ht hh b3 b4
  refine calls_famV env mixed Tryz.func14 has14 Tryz.ntmps14 [.agg #[iv sl, iv ro, iv su, .slice go G.length gc, .slice to T.length tc]] (by simp) ?_
  refine VC.cutE env mixed 1 2 (fun _ : Unit => [(1, .ptr 0 0), (2, .ptr 1 0)]) (fun _ => [(0, .cells [.v (iv sl), .v (iv ro), .v (iv su), .v (.slice go G.length gc), .v (.slice to T.length tc)] 25), (1, .cells [.v (iv 0), .v (iv 0), .v (iv 0), .v (.slice none 0 0), .v (.slice none 0 0)] 34)]) (fun _ => True) (fun _ _ => ⟨rfl, rfl⟩) ?_ (fun _ _ => ?_)
  · skip
    repeat'
     conv => whnf
     first
      | refine zA ?_ | refine zB ?_ | refine zC ?_ | refine zD ?_ | refine zE ?_ | refine zF ?_ | refine zG ?_ | refine zH ?_ | refine zJ ?_ | refine zI ?_ | refine splT ?_ | refine splF ?_ | refine splNot ?_
      | ((first | refine splIn (fun hc => ?_) (fun hc => ?_) | refine splD (fun hc => ?_) (fun hc => ?_) | refine splE (fun hc => ?_) (fun hc => ?_) | refine splNE (fun hc => ?_) (fun hc => ?_)) <;> first | (exfalso; omega) | (exfalso; dsimp only at hc; omega) | skip)
    exact ⟨rfl, (), trivial, Ent.weak rfl ⟨rfl, rfl, trivial⟩ ⟨rfl, rfl, trivial⟩ fun _ h => h⟩
  · rw [c14_1]
    refine VC.seq (f := fun σ' => ∃ y : Rws (G.map Rw.xs), Ent σ' ⟨42, [(1, .ptr 0 0), (2, .ptr 1 0), (3, .ptr 2 0)], [(0, .cells [.v (iv sl), .v (iv ro), .v (iv su), .v (.slice go G.length gc), .v (.slice to T.length tc)] 25), (1, .cells [.v (iv 0), .v (iv 0), .v (iv 0), .v (.slice none 0 0), .v (.slice none 0 0)] 34), (2, .cells [.v (iv sl), .v (iv ro), .v (iv su), .v (.slice y.o y.C.length y.c), .v (.slice none 0 0)] 34)], 3, fun w2 => Below w.heap.size w w2 ∧ St w.heap.size y.In w2, z0⟩) ?_ (fun σ' ⟨y, hy⟩ => VC.ent (hrest y) hy (okB rfl rfl rfl))
    clear hrest
    apply VC_reg1 env mixed 8 (fun y : Rws (G.map Rw.xs) => y.v) (fun y w2 => St w.heap.size y.In w2) ⟨none, 0, G, rfl⟩
    case h3 => exact Nat.le_of_ble_eq_true (by kernel_rfl)
    case hv =>
      intro y
      repeat'
       conv => whnf
       first
        | refine zA ?_ | refine zB ?_ | refine zC ?_ | refine zD ?_ | refine zE ?_ | refine zF ?_ | refine zG ?_ | refine zH ?_ | refine zJ ?_ | refine zI ?_ | refine splT ?_ | refine splF ?_ | refine splNot ?_
        | ((first | refine splIn (fun hc => ?_) (fun hc => ?_) | refine splD (fun hc => ?_) (fun hc => ?_) | refine splE (fun hc => ?_) (fun hc => ?_) | refine splNE (fun hc => ?_) (fun hc => ?_)) <;> first | (exfalso; omega) | (exfalso; dsimp only at hc; omega) | skip)
        | refine And.intro (a := (_ : Bool) = true ∧ (_ : List _) = [] ∧ (_ : List _) = []) ⟨rfl, rfl, rfl⟩ ?_
        | (with_reducible show FamEv _ _ _ 48 _ _ _); refine FamEv.mk [] (fun β w' _ hbw => h48 w' hbw) ?_
      refine ⟨?_, y, Ent.weak rfl ⟨rfl, rfl, rfl, trivial⟩ ⟨rfl, rfl, rfl, trivial⟩ fun w2 h => h⟩
      simp only [List.nil_append, List.cons_append, List.append_assoc]
      exact rfl
    case hk1 => intros; rfl
    case hi1 => exact fun _ _ => ⟨Or.inr rfl, Or.inr rfl, Or.inr rfl, Or.inr rfl, Or.inr rfl, Or.inr rfl, Or.inr rfl, Or.inr rfl, Or.inl (by kernel_rfl), Or.inl (by kernel_rfl), Or.inr rfl, Or.inl (by kernel_rfl), trivial⟩
end Go.Proofs.YtkbfcofifhngfaaGreat
