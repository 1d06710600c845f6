/- Lists and rows of lists in new memory: what these functions return. -/
import Derived.Test.YtpleibfohjbneaaGreatSD
import Derived.Maps.AppendAt
namespace Go.Proofs.YtpleibfohjbneaaGreat
open Go Tx Go.RowKit
set_option linter.unusedSimpArgs false
set_option linter.unusedVariables false

theorem list_nil (c : Nat) (w : World) : Calls Tryz.prog 47 #[.slice none 0 0] w fun e w' => e = .returned (.slice none 0 0) ∧ Below w.heap.size w w' := by
  refine calls_val env mixed Tryz.func47 has47 Tryz.ntmps47 [.slice none 0 0] (by simp) ?_
  repeat'
   conv => whnf
   first
    | refine zA ?_ | refine zB ?_ | refine zC ?_ | refine zD ?_ | refine zE ?_ | refine zF ?_ | refine zG ?_ | refine zH ?_ | refine zJ ?_ | refine zI ?_ | refine splT ?_ | refine splF ?_ | refine splNot ?_
    | ((first | refine splIn (fun hc => ?_) (fun hc => ?_) | refine splD (fun hc => ?_) (fun hc => ?_) | refine splE (fun hc => ?_) (fun hc => ?_) | refine splNE (fun hc => ?_) (fun hc => ?_)) <;> first | (exfalso; omega) | (exfalso; dsimp only at hc; omega) | skip)
  all_goals exact ⟨fun β => rfl, fun w' h => h⟩
set_option maxRecDepth 100000 in
theorem list_own (A : List Int) (o : Option Addr) (c : Nat) (w : World) (hrd : Rd 1 iF (.slice o A.length c) A w) (h0 : A ≠ []) (hl : A.length ≤ 1000000) :
    Calls Tryz.prog 47 #[.slice o A.length c] w fun e w' => ∃ b d, e = .returned (.slice (some ⟨b, 0, none⟩) A.length d) ∧ w.heap.size ≤ b ∧ Below w.heap.size w w' ∧ w'.ownsRow 0 3 1 (.slice (some ⟨b, 0, none⟩) A.length d) A.length (A.flatMap iF) := by
  refine calls_fam2 env mixed Tryz.func47 has47 Tryz.ntmps47 [.slice o A.length c] (by simp) ?_
  have hp : 1 ≤ A.length := by cases A with | nil => exact absurd rfl h0 | cons a A => simp
  obtain ⟨_, ad, rfl, _⟩ := hrd.ptr hp
  have he := fun (w' : World) (hb : Below w.heap.size w w') => Rd.ext (f := iF) (sz := 1) (fun _ => rfl) (hrd.below hb)
  have hln : (A.flatMap iF).length = A.length * 1 := by rw [lenF, Nat.mul_one]
  have hon := one1 A
  generalize A.flatMap iF = X at *
  generalize A.length = n at *
  repeat'
   conv => whnf
   first
    | refine zA ?_ | refine zB ?_ | refine zC ?_ | refine zD ?_ | refine zE ?_ | refine zF ?_ | refine zG ?_ | refine zH ?_ | refine zJ ?_ | refine zI ?_ | refine splT ?_ | refine splF ?_ | refine splNot ?_
    | ((first | refine splIn (fun hc => ?_) (fun hc => ?_) | refine splD (fun hc => ?_) (fun hc => ?_) | refine splE (fun hc => ?_) (fun hc => ?_) | refine splNE (fun hc => ?_) (fun hc => ?_)) <;> first | (exfalso; omega) | (exfalso; dsimp only at hc; omega) | skip)
    | refine Exists.intro (α := List Value) X ⟨⟨hln, fun w' hw' => he w' hw', hon⟩, ?_⟩
  have hz : 0 + n = n := Nat.zero_add n
  exact ⟨fun w' h => h, fun β w' hB hB2 hblk => ⟨β 0, β 1, congrArg (fun z => Ending.returned (.slice (some ⟨β 0, 0, none⟩) z (β 1))) hz, (hblk 0 _ rfl rfl).1, hB2, by have := (hblk 0 _ rfl rfl).2; simp only [Blk.ok, List.nil_append, hz] at this; exact this⟩⟩
set_option maxRecDepth 100000 in
theorem list_ext (ad : Addr) (c : Nat) (w : World) : Calls Tryz.prog 47 #[.slice (some ad) 0 c] w fun e w' => e = .returned (.slice none 0 0) ∧ Below w.heap.size w w' := by
  refine callsIn_wide.1 (?_ : CallsIn Fence.wide 5 Tryz.prog 47 _ w _)
  refine callsIn_of_wp_marks Tryz.func47 rfl trivial ?_ rfl
  simp only [Tryz.ntmps47, List.size_toArray, List.length_cons, List.length_nil, Nat.reduceAdd, Nat.reduceSub, Array.replicate_succ, Array.replicate_zero, List.push_toArray, List.append_toArray, List.nil_append, List.cons_append]
  gi_wp2
  have h0 : Tryz.f47.results = #[.tmp 2] := by kernel_rfl
  exact ⟨_, by simp only [results, h0]; simp [Sem.run_bind, Sem.run_map, Sem.run_pure], rfl, Below.refl _ w⟩
/-- A list without numbers, copied: nil. -/
theorem list_none (o : Option Addr) (c : Nat) (w : World) (h : Rd 1 iF (.slice o 0 c) [] w) : Calls Tryz.prog 47 #[.slice o 0 c] w fun e w' => e = .returned (.slice none 0 0) ∧ Below w.heap.size w w' := by
  rcases h with ⟨h, _⟩ | ⟨ad, d, h, _⟩
  · rw [h]; exact list_nil 0 w
  · rw [h]; exact list_ext ad d w
theorem list_fam (A : List Int) (o : Option Addr) (c : Nat) (w : World) (hrd : Rd 1 iF (.slice o A.length c) A w) (hl : A.length ≤ 1000000) :
    Calls Tryz.prog 47 #[.slice o A.length c] w fun e w' => ∃ y : Option Addr × Nat, e = .returned (sV A.length y) ∧ Below w.heap.size w w' ∧ St w.heap.size (Rd 1 iF (sV A.length y) A) w' := by
  cases A with
  | nil =>
    exact (list_none o c w hrd).mono fun e w' ⟨h1, h2⟩ => ⟨(none, 0), h1, h2, fun _ _ => .inl ⟨rfl, rfl⟩⟩
  | cons a A =>
    exact (list_own (a :: A) o c w hrd (by simp) hl).mono fun e w' ⟨b, d, h1, h2, h3, h4⟩ => ⟨(some ⟨b, 0, none⟩, d), h1, h3, own_st (f := iF) (fun _ => rfl) h2 rfl h4⟩


/-- Lists that lie somewhere and say CC. -/
structure Rws (CC : List (List Int)) where
  o : Option Addr
  c : Nat
  C : List Rw
  h : C.map Rw.xs = CC
abbrev Rws.v {CC : List (List Int)} (y : Rws CC) : Value := .slice y.o y.C.length y.c
def Rws.In {CC : List (List Int)} (y : Rws CC) (w : World) : Prop := Rd 1 Rw.cs (.slice y.o y.C.length y.c) y.C w ∧ RR y.C w

set_option maxHeartbeats 1000000 in
set_option maxRecDepth 100000 in
theorem rows_ok (C : List Rw) (o : Option Addr) (c : Nat) (w : World) (hrd : Rd 1 Rw.cs (.slice o C.length c) C w) (hR : RR C w) (hl : C.length ≤ 1000000) (hrl : ∀ r ∈ C, r.xs.length ≤ 1000000) :
    Calls Tryz.prog 66 #[.slice o C.length c] w fun e w' => ∃ y : Rws (C.map Rw.xs), e = .returned y.v ∧ Below w.heap.size w w' ∧ St w.heap.size y.In w' := by
  refine calls_fam env mixed Tryz.func66 has66 Tryz.ntmps66 [.slice o C.length c] (by simp) ?_
  repeat'
   conv => whnf
   first
    | refine zA ?_ | refine zB ?_ | refine zC ?_ | refine zD ?_ | refine zE ?_ | refine zF ?_ | refine zG ?_ | refine zH ?_ | refine zJ ?_ | refine zI ?_ | refine splT ?_ | refine splF ?_ | refine splNot ?_
    | ((first | refine splIn (fun hc => ?_) (fun hc => ?_) | refine splD (fun hc => ?_) (fun hc => ?_) | refine splE (fun hc => ?_) (fun hc => ?_) | refine splNE (fun hc => ?_) (fun hc => ?_)) <;> first | (exfalso; omega) | (exfalso; dsimp only at hc; omega) | skip)
  refine loopH 2 (fun D : List Rw => [(0, .v (.slice o C.length c)), (3, oSV 0 1 D), (4, .v (iv D.length))]) (fun D => oM 0 1 1 Rw.cs 36 D)
    (fun D w' => Below w.heap.size w w' ∧ ∀ r ∈ D, St w.heap.size (Rd 1 iF (.slice r.o r.xs.length r.c) r.xs) w')
    (fun D => D.length ≤ C.length ∧ D.map Rw.xs = (C.map Rw.xs).take D.length) (fun D => C.length - D.length) [] ⟨Nat.zero_le _, rfl⟩ ⟨rfl, rfl, rfl, trivial⟩ trivial (fun w' h => ⟨h, fun r hr => by cases hr⟩) (fun D _ => by cases D <;> exact ⟨rfl, rfl⟩) ?_
  intro D ⟨hk, hmap⟩
  rcases Nat.lt_or_ge D.length C.length with hkl | hkl
  · obtain ⟨⟨ro, rc, xs⟩, hx⟩ : ∃ b, C[D.length]? = some b := ⟨_, List.getElem?_eq_getElem hkl⟩
    obtain ⟨_, ad, rfl, _⟩ := hrd.ptr (by omega)
    have e0 := fun (w' : World) hw' => rd_ati (hrd.below (w' := w') hw') hx
    have hr := hR _ (List.mem_of_getElem? hx)
    have hrb := hrl _ (List.mem_of_getElem? hx)
    change Rd 1 iF (.slice ro xs.length rc) xs w at hr
    dsimp only at hrb
    have hm : (C.map Rw.xs)[D.length]? = some xs := by rw [List.getElem?_map, hx]; rfl
    have hnew : ∀ y : Option Addr × Nat, (D ++ [(⟨y.1, y.2, xs⟩ : Rw)]).map Rw.xs = (C.map Rw.xs).take (D ++ [(⟨y.1, y.2, xs⟩ : Rw)]).length := fun y => by
      rw [List.map_append, hmap, List.length_append, List.length_singleton, List.take_add_one, hm]; rfl
    have hl2 : ∀ y : Option Addr × Nat, (D ++ [(⟨y.1, y.2, xs⟩ : Rw)]).length = D.length + 1 := fun y => by simp
    have hh : ∀ (y : Option Addr × Nat) w', ((Below w.heap.size w w' ∧ ∀ r ∈ D, St w.heap.size (Rd 1 iF (.slice r.o r.xs.length r.c) r.xs) w') ∧ St w.heap.size (Rd 1 iF (.slice y.1 xs.length y.2) xs) w') →
        Below w.heap.size w w' ∧ ∀ r ∈ D ++ [(⟨y.1, y.2, xs⟩ : Rw)], St w.heap.size (Rd 1 iF (.slice r.o r.xs.length r.c) r.xs) w' := fun y w' h => ⟨h.1.1, fun r hr => by
      rcases List.mem_append.1 hr with hr | hr
      · exact h.1.2 r hr
      · rw [List.mem_singleton] at hr; subst hr; exact h.2⟩
    generalize hn : D.length = n at *
    cases D with
    | nil =>
      repeat'
       conv => whnf
       first
        | refine zA ?_ | refine zB ?_ | refine zC ?_ | refine zD ?_ | refine zE ?_ | refine zF ?_ | refine zG ?_ | refine zH ?_ | refine zJ ?_ | refine zI ?_ | refine splT ?_ | refine splF ?_ | refine splNot ?_
        | ((first | refine splIn (fun hc => ?_) (fun hc => ?_) | refine splD (fun hc => ?_) (fun hc => ?_) | refine splE (fun hc => ?_) (fun hc => ?_) | refine splNE (fun hc => ?_) (fun hc => ?_)) <;> first | (exfalso; omega) | (exfalso; dsimp only at hc; omega) | skip)
        | refine Exists.intro (α := List Value) [.slice ro xs.length rc] ⟨⟨rfl, fun w' hw' => e0 w' hw'.1⟩, ?_⟩
        | ((with_reducible show CallEv _ _ 47 _ _ _ _ _); refine callF [] (fun y : Option Addr × Nat => sV xs.length y) (fun y => St w.heap.size (Rd 1 iF (.slice y.1 xs.length y.2) xs)) (fun β w' _ hbw => famS (by first | exact hbw | exact hbw.1 | exact hbw.1.1 | exact hbw.1.1.1 | exact hbw.1.1.1.1 | exact hbw.1.1.1.1.1 | exact hbw.1.1.1.1.1.1 | exact hbw.1.1.1.1.1.1.1 | exact hbw.1.1.1.1.1.1.1.1 | exact hbw.1.1.1.1.1.1.1.1.1 | exact hbw.1.1.1.1.1.1.1.1.1.1 | exact hbw.1.1.1.1.1.1.1.1.1.1.1 | exact hbw.1.1.1.1.1.1.1.1.1.1.1.1 | exact hbw.1.1.1.1.1.1.1.1.1.1.1.1.1) (list_fam xs ro rc w' (hr.below (by first | exact hbw | exact hbw.1 | exact hbw.1.1 | exact hbw.1.1.1 | exact hbw.1.1.1.1 | exact hbw.1.1.1.1.1 | exact hbw.1.1.1.1.1.1 | exact hbw.1.1.1.1.1.1.1 | exact hbw.1.1.1.1.1.1.1.1 | exact hbw.1.1.1.1.1.1.1.1.1 | exact hbw.1.1.1.1.1.1.1.1.1.1 | exact hbw.1.1.1.1.1.1.1.1.1.1.1 | exact hbw.1.1.1.1.1.1.1.1.1.1.1.1 | exact hbw.1.1.1.1.1.1.1.1.1.1.1.1.1)) hrb)) ?_; intro y)
      exact ⟨[(⟨y.1, y.2, xs⟩ : Rw)], ⟨by have := hl2 y; simp only [List.nil_append] at this; omega, hnew y⟩, by have := hl2 y; simp only [List.nil_append] at this; omega, Ent.ren (rho [(0, 3), (1, 4)]) rfl rfl ⟨rfl, rfl, by rw [← hn]; rfl, trivial⟩ ⟨rfl, trivial⟩ (hh y)⟩
    | cons a D =>
      simp only [List.length_cons] at hn
      repeat'
       conv => whnf
       first
        | refine zA ?_ | refine zB ?_ | refine zC ?_ | refine zD ?_ | refine zE ?_ | refine zF ?_ | refine zG ?_ | refine zH ?_ | refine zJ ?_ | refine zI ?_ | refine splT ?_ | refine splF ?_ | refine splNot ?_
        | ((first | refine splIn (fun hc => ?_) (fun hc => ?_) | refine splD (fun hc => ?_) (fun hc => ?_) | refine splE (fun hc => ?_) (fun hc => ?_) | refine splNE (fun hc => ?_) (fun hc => ?_)) <;> first | (exfalso; omega) | (exfalso; dsimp only at hc; omega) | skip)
        | refine Exists.intro (α := List Value) [.slice ro xs.length rc] ⟨⟨rfl, fun w' hw' => e0 w' hw'.1⟩, ?_⟩
        | ((with_reducible show CallEv _ _ 47 _ _ _ _ _); refine callF [] (fun y : Option Addr × Nat => sV xs.length y) (fun y => St w.heap.size (Rd 1 iF (.slice y.1 xs.length y.2) xs)) (fun β w' _ hbw => famS (by first | exact hbw | exact hbw.1 | exact hbw.1.1 | exact hbw.1.1.1 | exact hbw.1.1.1.1 | exact hbw.1.1.1.1.1 | exact hbw.1.1.1.1.1.1 | exact hbw.1.1.1.1.1.1.1 | exact hbw.1.1.1.1.1.1.1.1 | exact hbw.1.1.1.1.1.1.1.1.1 | exact hbw.1.1.1.1.1.1.1.1.1.1 | exact hbw.1.1.1.1.1.1.1.1.1.1.1 | exact hbw.1.1.1.1.1.1.1.1.1.1.1.1 | exact hbw.1.1.1.1.1.1.1.1.1.1.1.1.1) (list_fam xs ro rc w' (hr.below (by first | exact hbw | exact hbw.1 | exact hbw.1.1 | exact hbw.1.1.1 | exact hbw.1.1.1.1 | exact hbw.1.1.1.1.1 | exact hbw.1.1.1.1.1.1 | exact hbw.1.1.1.1.1.1.1 | exact hbw.1.1.1.1.1.1.1.1 | exact hbw.1.1.1.1.1.1.1.1.1 | exact hbw.1.1.1.1.1.1.1.1.1.1 | exact hbw.1.1.1.1.1.1.1.1.1.1.1 | exact hbw.1.1.1.1.1.1.1.1.1.1.1.1 | exact hbw.1.1.1.1.1.1.1.1.1.1.1.1.1)) hrb)) ?_; intro y)
      exact ⟨a :: D ++ [(⟨y.1, y.2, xs⟩ : Rw)], ⟨by have := hl2 y; omega, hnew y⟩, by have := hl2 y; omega, Ent.ren (rho [(0, 3), (1, 4)]) rfl rfl ⟨rfl, by simp [oSV]; rfl, by rw [← hn]; simp; rfl, trivial⟩ ⟨by simp [oM]; rfl, trivial⟩ (hh y)⟩
  · have hk2 : D.length = C.length := by omega
    rw [hk2, List.take_of_length_le (Nat.le_of_eq (List.length_map ..))] at hmap
    cases D with
    | nil =>
      repeat'
       conv => whnf
       first
        | refine zA ?_ | refine zB ?_ | refine zC ?_ | refine zD ?_ | refine zE ?_ | refine zF ?_ | refine zG ?_ | refine zH ?_ | refine zJ ?_ | refine zI ?_ | refine splT ?_ | refine splF ?_ | refine splNot ?_
        | ((first | refine splIn (fun hc => ?_) (fun hc => ?_) | refine splD (fun hc => ?_) (fun hc => ?_) | refine splE (fun hc => ?_) (fun hc => ?_) | refine splNE (fun hc => ?_) (fun hc => ?_)) <;> first | (exfalso; omega) | (exfalso; dsimp only at hc; omega) | skip)
      exact ⟨fun w' h => h.1, fun β w' hB hblk => ⟨⟨none, 0, [], hmap⟩, rfl, fun w2 k2 => ⟨.inl ⟨rfl, rfl⟩, fun r hr => by cases hr⟩⟩⟩
    | cons a L =>
      repeat'
       conv => whnf
       first
        | refine zA ?_ | refine zB ?_ | refine zC ?_ | refine zD ?_ | refine zE ?_ | refine zF ?_ | refine zG ?_ | refine zH ?_ | refine zJ ?_ | refine zI ?_ | refine splT ?_ | refine splF ?_ | refine splNot ?_
        | ((first | refine splIn (fun hc => ?_) (fun hc => ?_) | refine splD (fun hc => ?_) (fun hc => ?_) | refine splE (fun hc => ?_) (fun hc => ?_) | refine splNE (fun hc => ?_) (fun hc => ?_)) <;> first | (exfalso; omega) | (exfalso; dsimp only at hc; omega) | skip)
      refine ⟨fun w' h => h.1, fun β w' hB hblk => ?_⟩
      obtain ⟨y, h1, h2⟩ := oEnd (sz := 1) (f := Rw.cs) (fun _ => rfl) a L (hblk 0 _ rfl rfl)
      exact ⟨⟨y.1, y.2, a :: L, hmap⟩, h1, fun w2 k2 => ⟨h2 w2 k2, fun r hr => hB.2 r hr w2 k2⟩⟩

/-- Three cells of a box. -/
abbrev Box3 (b : Nat) (v0 v1 v2 : Value) (w : World) : Prop := w.cell? ⟨b, 0, none⟩ = some v0 ∧ w.cell? ⟨b, 1, none⟩ = some v1 ∧ w.cell? ⟨b, 2, none⟩ = some v2
abbrev Box3B (w0 : World) (v0 v1 v2 : Value) (w : World) : Prop := Below w0.heap.size w0 w ∧ Box3 w0.heap.size v0 v1 v2 w
theorem heap2a (w : World) (A B : Obj) : ((w.alloc A).alloc B).drew.heap[w.heap.size]? = some A := by
  show ((w.heap.push A).push B)[w.heap.size]? = _
  rw [Array.getElem?_push, if_neg (by rw [Array.size_push]; omega), Array.getElem?_push, if_pos rfl]
theorem heap2b (w : World) (A B : Obj) : ((w.alloc A).alloc B).drew.heap[w.heap.size + 1]? = some B := by
  show ((w.heap.push A).push B)[w.heap.size + 1]? = _
  rw [Array.getElem?_push, if_pos (by rw [Array.size_push])]
theorem heap2s (w : World) (A B : Obj) : ((w.alloc A).alloc B).drew.heap.size = w.heap.size + 2 := by
  show ((w.heap.push A).push B).size = _
  rw [Array.size_push, Array.size_push]
theorem cell_of {w : World} {b o : Nat} {cs : Array Value} {t : TypeId} {v : Value} (h : w.heap[b]? = some (.cells cs t (0, 0))) (hv : cs[o]? = some v) : w.cell? ⟨b, o, none⟩ = some v := by
  unfold World.cell?
  simp only [h]
  exact hv
theorem frozen_of {w : World} {b o : Nat} {cs : Array Value} {t : TypeId} (h : w.heap[b]? = some (.cells cs t (0, 0))) : w.frozen? ⟨b, o, none⟩ = false := by
  unfold World.frozen?
  simp only [h]
  simp
theorem box3_new {w : World} {v0 v1 v2 : Value} {t t' : TypeId} {z : Array Value} : Box3B w v0 v1 v2 ((w.alloc (.cells #[v0, v1, v2] t)).alloc (.cells z t')).drew :=
  ⟨(((Below.refl _ w).alloc (Nat.le_refl _) _).alloc (by show w.heap.size ≤ (w.heap.push _).size; rw [Array.size_push]; omega) _).drew, cell_of (heap2a _ _ _) rfl, cell_of (heap2a _ _ _) rfl, cell_of (heap2a _ _ _) rfl⟩
theorem box3_below {w0 w w' : World} {v0 v1 v2 : Value} (h : Box3B w0 v0 v1 v2 w) (hb : Below w.heap.size w w') : Box3B w0 v0 v1 v2 w' :=
  ⟨h.1.trans (hb.mono h.1.size), ext_below hb h.2.1, ext_below hb h.2.2.1, ext_below hb h.2.2.2⟩
theorem box3_set {w0 w : World} {v0 v1 v2 u0 u1 u2 : Value} (h : Box3B w0 v0 v1 v2 w) :
    Box3B w0 v0 v1 v2 (((w.setCell ⟨w0.heap.size + 1, 0, none⟩ u0).setCell ⟨w0.heap.size + 1, 1, none⟩ u1).setCell ⟨w0.heap.size + 1, 2, none⟩ u2) := by
  refine ⟨((h.1.setCell (by show _ ≤ w0.heap.size + 1; omega) u0).setCell (by show _ ≤ w0.heap.size + 1; omega) u1).setCell (by show _ ≤ w0.heap.size + 1; omega) u2, ?_⟩
  have e : ∀ o, (((w.setCell ⟨w0.heap.size + 1, 0, none⟩ u0).setCell ⟨w0.heap.size + 1, 1, none⟩ u1).setCell ⟨w0.heap.size + 1, 2, none⟩ u2).cell? ⟨w0.heap.size, o, none⟩ = w.cell? ⟨w0.heap.size, o, none⟩ := fun o =>
    World.cell?_of_block (by
      show (World.setCell _ _ _).heap[w0.heap.size]? = w.heap[w0.heap.size]?
      rw [Below.heap_setCell _ _ _ _ (by show w0.heap.size ≠ w0.heap.size + 1; omega), Below.heap_setCell _ _ _ _ (by show w0.heap.size ≠ w0.heap.size + 1; omega), Below.heap_setCell _ _ _ _ (by show w0.heap.size ≠ w0.heap.size + 1; omega)])
  exact ⟨(e 0).trans h.2.1, (e 1).trans h.2.2.1, (e 2).trans h.2.2.2⟩
theorem box3_zero {w w1 w2 : World} {a z : Array Value} {t t' : TypeId} (h1 : Below ((w.alloc (.cells a t)).alloc (.cells z t')).drew.heap.size ((w.alloc (.cells a t)).alloc (.cells z t')).drew w1) (h2 : Below w1.heap.size w1 w2) :
    w2.heap[w.heap.size + 1]? = some (.cells z t' (0, 0)) ∧ w.heap.size + 2 ≤ w1.heap.size := by
  have := h1.size
  rw [heap2s] at this h1
  refine ⟨?_, this⟩
  rw [h2.block _ (by omega), h1.block _ (by omega)]
  exact heap2b _ _ _
/-- What abides behind the store. -/
theorem st_set {w w1 w2 : World} {p : World → Prop} {u0 u1 u2 : Value} {n : Nat} (h : St n p w1) (hn : w.heap.size + 2 ≤ n) (hs : n ≤ w1.heap.size) (h2 : Below w1.heap.size w1 w2) :
    St w.heap.size p (((w2.setCell ⟨w.heap.size + 1, 0, none⟩ u0).setCell ⟨w.heap.size + 1, 1, none⟩ u1).setCell ⟨w.heap.size + 1, 2, none⟩ u2) := by
  intro w3 k3
  refine h w3 ⟨?_, fun i hi h1 => ?_⟩
  · have := k3.size
    have := h2.size
    have e : ∀ (w : World) (a : Addr) (u : Value), (w.setCell a u).heap.size = w.heap.size := fun w a u => by unfold World.setCell; split <;> simp
    rw [e, e, e] at *
    omega
  · have e : ∀ (w : World) (a : Addr) (u : Value), (w.setCell a u).heap.size = w.heap.size := fun w a u => by unfold World.setCell; split <;> simp
    have hlt : i < w2.heap.size := Nat.lt_of_lt_of_le h1 h2.size
    rw [k3.same i (by omega) (by rw [e, e, e]; exact hlt)]
    rw [Below.heap_setCell _ _ _ _ (by show i ≠ w.heap.size + 1; omega), Below.heap_setCell _ _ _ _ (by show i ≠ w.heap.size + 1; omega), Below.heap_setCell _ _ _ _ (by show i ≠ w.heap.size + 1; omega)]
    exact h2.block i h1

theorem set3 {w : World} {b : Nat} {z0 z1 z2 u0 u1 u2 : Value} {t : TypeId} (h : w.heap[b]? = some (.cells #[z0, z1, z2] t (0, 0))) :
    (((w.setCell ⟨b, 0, none⟩ u0).setCell ⟨b, 1, none⟩ u1).setCell ⟨b, 2, none⟩ u2).heap[b]? = some (.cells #[u0, u1, u2] t (0, 0)) := by
  have e : ∀ (w : World) (o : Nat) (u : Value) (cs : Array Value), w.heap[b]? = some (.cells cs t (0, 0)) → (w.setCell ⟨b, o, none⟩ u).heap[b]? = some (.cells (cs.setIfInBounds o u) t (0, 0)) := fun w o u cs hw => by
    unfold World.setCell
    simp only [Array.getElem?_modify, if_true, hw, Option.map_some]
    rfl
  exact e _ 2 u2 _ (e _ 1 u1 _ (e _ 0 u0 _ h))
theorem ld63 {w : World} {b : Nat} {u0 u1 u2 : Value} (h : w.heap[b]? = some (.cells #[u0, u1, u2] 63 (0, 0))) :
    (((asAddr (.pointer (some ⟨b, 0, none⟩))).run Tryz.prog w).andThen fun a w' => (loadVar 63 a).run Tryz.prog w') = .ok (.agg #[u0, u1, u2]) w := by
  have e0 : (asAddr (.pointer (some ⟨b, 0, none⟩))).run Tryz.prog w = .ok ⟨b, 0, none⟩ w := rfl
  rw [e0, Result.andThen_ok]
  exact run_loadVar_cells (P := Tryz.prog) tok63 (β := fun i => i) (ad := ⟨b, 0, none⟩) (l := [.v u0, .v u1, .v u2]) (s := .agg [.v u0, .v u1, .v u2]) rfl
    (fun j v hv => by
      rw [own_add, cell_of_row _ b (0 + j) _ 63 (0, 0) h, Nat.zero_add, List.getElem?_toArray]
      exact hv) (.inl ⟨rfl, rfl⟩)
end Go.Proofs.YtpleibfohjbneaaGreat
