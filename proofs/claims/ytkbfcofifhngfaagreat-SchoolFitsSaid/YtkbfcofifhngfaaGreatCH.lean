/- Timetables, said in the program's types and in the reference's: what table and Back return. By cCH.py. -/
import Derived.Test.YtkbfcofifhngfaaGreatCG
namespace Go.Proofs.YtkbfcofifhngfaaGreat
open Go Tx Go.RowKit
set_option linter.unusedSimpArgs false
set_option linter.unusedVariables false

/-- A lesson: group, subject, teacher. -/
structure Ln where
  g : Int
  j : Int
  t : Int
abbrev Ln.cs (x : Ln) : List Value := [iv x.g, iv x.j, iv x.t]
/-- Lessons that lie somewhere. -/
structure Lr where
  o : Option Addr
  c : Nat
  L : List Ln
abbrev Lr.cs (r : Lr) : List Value := [.slice r.o r.L.length r.c]
/-- A timetable lies there. -/
structure TbL (o : Option Addr) (c : Nat) (D : List Lr) (w : World) : Prop where
  t : Rd 1 Lr.cs (.slice o D.length c) D w
  r : ∀ r ∈ D, Rd 3 Ln.cs (.slice r.o r.L.length r.c) r.L w
theorem TbL.below {o : Option Addr} {c : Nat} {D : List Lr} {w w' : World} (h : TbL o c D w) (hb : Below w.heap.size w w') : TbL o c D w' := ⟨h.t.below hb, fun r hr => (h.r r hr).below hb⟩
/-- A timetable that says X. -/
structure TbF (X : List (List Ln)) where
  o : Option Addr
  c : Nat
  D : List Lr
  h : D.map Lr.L = X
  k : ∀ r ∈ D, r.L.length ≤ r.c ∧ (r.L = [] → r.o = none ∧ r.c = 0)
abbrev TbF.v {X : List (List Ln)} (y : TbF X) : Value := .slice y.o y.D.length y.c

set_option maxHeartbeats 4000000 in
set_option maxRecDepth 100000 in
theorem table_ok (o : Option Addr) (c : Nat) (S : List Lr) (w : World) (h : TbL o c S w) (hl : S.length ≤ 1000000) (hrl : ∀ r ∈ S, r.L.length ≤ 1000000) :
    Calls Tryz.prog 29 #[.slice o S.length c] w fun e w' => ∃ y : TbF (S.map Lr.L), e = .returned y.v ∧ Below w.heap.size w w' ∧ St w.heap.size (TbL y.o y.c y.D) w' := by
  obtain ⟨hrd, hR⟩ := h
  refine calls_fam env mixed Tryz.func29 has29 Tryz.ntmps29 [.slice o S.length c] (by simp) ?_
  repeat'
   conv => whnf
   first
    | refine zA ?_ | refine zB ?_ | refine zC ?_ | refine zD ?_ | refine zE ?_ | refine zF ?_ | refine zG ?_ | refine zH ?_ | refine zJ ?_ | refine zI ?_ | refine splT ?_ | refine splF ?_ | refine splNot ?_
    | ((first | refine splIn (fun hc => ?_) (fun hc => ?_) | refine splD (fun hc => ?_) (fun hc => ?_) | refine splE (fun hc => ?_) (fun hc => ?_) | refine splNE (fun hc => ?_) (fun hc => ?_)) <;> first | (exfalso; omega) | (exfalso; dsimp only at hc; omega) | skip)
  refine loopD 2 (fun D : List Lr => [(0, .v (.slice o S.length c)), (3, oSV 0 1 D), (4, .v (iv D.length))]) (fun D => oM 0 1 1 Lr.cs 44 D)
    (fun (D : List Lr) w' => Below w.heap.size w w' ∧ ∀ r ∈ D, St w.heap.size (Rd 3 Ln.cs (.slice r.o r.L.length r.c) r.L) w' ∧ r.L.length ≤ r.c ∧ (r.L = [] → r.o = none ∧ r.c = 0))
    (fun D => D.length ≤ S.length ∧ D.map Lr.L = (S.map Lr.L).take D.length) (fun D => S.length - D.length) (Dis.ent (x := []) ⟨Nat.zero_le _, rfl⟩ (Ent.weak rfl ⟨rfl, rfl, rfl, trivial⟩ trivial (fun w' h => ⟨h, fun r hr => by cases hr⟩))) (fun D _ => by cases D <;> exact ⟨rfl, rfl⟩) ?_
  intro D ⟨hk, hmap⟩
  rcases Nat.lt_or_ge D.length S.length with hkl | hkl
  · obtain ⟨⟨so, sc, L⟩, hx⟩ : ∃ b, S[D.length]? = some b := ⟨_, List.getElem?_eq_getElem hkl⟩
    obtain ⟨_, ad, rfl, _⟩ := hrd.ptr (by omega)
    have e1 := fun (w' : World) hw' => rd_ati (hrd.below (w' := w') hw') hx
    have hr := hR _ (List.mem_of_getElem? hx)
    have hrb := hrl _ (List.mem_of_getElem? hx)
    dsimp only at hr hrb
    have hm : (S.map Lr.L)[D.length]? = some L := by rw [List.getElem?_map, hx]; rfl
    have hnew : ∀ y : Option Addr × Nat, (D ++ [(⟨y.1, y.2, L⟩ : Lr)]).map Lr.L = (S.map Lr.L).take (D ++ [(⟨y.1, y.2, L⟩ : Lr)]).length := fun y => by
      rw [List.map_append, hmap, List.length_append, List.length_singleton, List.take_add_one, hm]; rfl
    have hl2 : ∀ y : Option Addr × Nat, (D ++ [(⟨y.1, y.2, L⟩ : Lr)]).length = D.length + 1 := fun y => by simp
    have hh0 : ∀ (o : Option Addr) (c : Nat), L = [] → ∀ w', (fun (D : List Lr) w' => Below w.heap.size w w' ∧ ∀ r ∈ D, St w.heap.size (Rd 3 Ln.cs (.slice r.o r.L.length r.c) r.L) w' ∧ r.L.length ≤ r.c ∧ (r.L = [] → r.o = none ∧ r.c = 0)) D w' → (o = none ∧ c = 0 → (fun (D : List Lr) w' => Below w.heap.size w w' ∧ ∀ r ∈ D, St w.heap.size (Rd 3 Ln.cs (.slice r.o r.L.length r.c) r.L) w' ∧ r.L.length ≤ r.c ∧ (r.L = [] → r.o = none ∧ r.c = 0)) (D ++ [(⟨o, c, L⟩ : Lr)]) w') := fun o c hxs w' h hoc => ⟨h.1, fun r hr => by
      rcases List.mem_append.1 hr with hr | hr
      · exact h.2 r hr
      · rw [List.mem_singleton] at hr; subst hr; subst hxs; obtain ⟨rfl, rfl⟩ := hoc; exact ⟨fun _ _ => .inl ⟨rfl, rfl⟩, Nat.le_refl _, fun _ => ⟨rfl, rfl⟩⟩⟩
    have hh1 : ∀ (b d : Nat) (w' : World), L ≠ [] → w.heap.size ≤ b → (fun (D : List Lr) w' => Below w.heap.size w w' ∧ ∀ r ∈ D, St w.heap.size (Rd 3 Ln.cs (.slice r.o r.L.length r.c) r.L) w' ∧ r.L.length ≤ r.c ∧ (r.L = [] → r.o = none ∧ r.c = 0)) D w' → w'.ownsRow 0 46 3 (.slice (some ⟨b, 0, none⟩) L.length d) L.length (L.flatMap Ln.cs) →
        (fun (D : List Lr) w' => Below w.heap.size w w' ∧ ∀ r ∈ D, St w.heap.size (Rd 3 Ln.cs (.slice r.o r.L.length r.c) r.L) w' ∧ r.L.length ≤ r.c ∧ (r.L = [] → r.o = none ∧ r.c = 0)) (D ++ [(⟨some ⟨b, 0, none⟩, d, L⟩ : Lr)]) w' := fun b d w' hne hb h ho => ⟨h.1, fun r hr => by
      rcases List.mem_append.1 hr with hr | hr
      · exact h.2 r hr
      · rw [List.mem_singleton] at hr; subst hr; exact ⟨rows_st (sz := 3) (f := Ln.cs) (fun _ => rfl) rfl rfl hb ho, own_cap ho, fun h => absurd h hne⟩⟩
    have hSl : S.length ≤ 1000000 := hl
    generalize hn : D.length = n at *
    repeat'
     conv => whnf
     first
      | refine zA ?_ | refine zB ?_ | refine zC ?_ | refine zD ?_ | refine zE ?_ | refine zF ?_ | refine zG ?_ | refine zH ?_ | refine zJ ?_ | refine zI ?_ | refine splT ?_ | refine splF ?_ | refine splNot ?_
      | ((first | refine splIn (fun hc => ?_) (fun hc => ?_) | refine splD (fun hc => ?_) (fun hc => ?_) | refine splE (fun hc => ?_) (fun hc => ?_) | refine splNE (fun hc => ?_) (fun hc => ?_)) <;> first | (exfalso; omega) | (exfalso; dsimp only at hc; omega) | skip)
    conv => whnf
    refine loopN 4 (fun k : Nat => [(0, .v (.slice (some ad) S.length c)), (3, oSV 0 1 D), (4, .v (iv n)), (5, oSV 2 3 (L.take k)), (6, .v (iv k))]) (fun k => oM 0 1 1 Lr.cs 44 D ++ oM 2 3 3 Ln.cs 46 (L.take k)) (fun k => k ≤ L.length) (fun k => L.length - k) 0 (Nat.zero_le _) ⟨rfl, rfl, rfl, rfl, rfl, trivial⟩ (by cases D <;> first | exact trivial | exact ⟨rfl, trivial⟩) (fun k _ => by cases D <;> cases L.take k <;> exact ⟨rfl, rfl⟩) ?_
    intro k hk3
    rcases Nat.lt_or_ge k L.length with hkl3 | hkl3
    · obtain ⟨⟨x1, x2, x3⟩, hx3⟩ : ∃ b, L[k]? = some b := ⟨_, List.getElem?_eq_getElem hkl3⟩
      obtain ⟨_, ad2, rfl, _⟩ := hr.ptr (by omega)
      have e2 := fun (w' : World) hw' => rd_fld (hr.below (w' := w') hw') hx3
      have ht : L.take (k + 1) = L.take k ++ [⟨x1, x2, x3⟩] := by rw [List.take_add_one, hx3]; rfl
      have hlen : (L.take k).length ≤ k := List.length_take_le _ _
      generalize L.take k = T at *
      cases D with
      | nil =>
        cases T with
        | nil =>
          repeat'
           conv => whnf
           first
            | refine zA ?_ | refine zB ?_ | refine zC ?_ | refine zD ?_ | refine zE ?_ | refine zF ?_ | refine zG ?_ | refine zH ?_ | refine zJ ?_ | refine zI ?_ | refine splT ?_ | refine splF ?_ | refine splNot ?_
            | ((first | refine splIn (fun hc => ?_) (fun hc => ?_) | refine splD (fun hc => ?_) (fun hc => ?_) | refine splE (fun hc => ?_) (fun hc => ?_) | refine splNE (fun hc => ?_) (fun hc => ?_)) <;> first | (exfalso; omega) | (exfalso; dsimp only at hc; omega) | skip)
            | refine Exists.intro (α := List Value) [.slice (some ad2) L.length sc] ⟨⟨rfl, fun w' hw' => e1 w' hw'.1⟩, ?_⟩
            | refine Exists.intro (α := List Value) [iv x1] ⟨⟨rfl, fun w' hw' => e2 w' hw'.1 0 _ rfl⟩, ?_⟩
            | refine Exists.intro (α := List Value) [iv x2] ⟨⟨rfl, fun w' hw' => e2 w' hw'.1 1 _ rfl⟩, ?_⟩
            | refine Exists.intro (α := List Value) [iv x3] ⟨⟨rfl, fun w' hw' => e2 w' hw'.1 2 _ rfl⟩, ?_⟩
          all_goals first | (exfalso; omega) | exact ⟨k + 1, by omega, by omega, Ent.ren (rho [(2, 5), (3, 6)]) rfl (by rw [ht]; rfl) ⟨rfl, rfl, rfl, by rw [ht]; rfl, rfl, trivial⟩ (by rw [ht]; exact ⟨rfl, trivial⟩) fun _ h => h⟩
        | cons a T =>
          simp only [List.length_cons] at hlen
          repeat'
           conv => whnf
           first
            | refine zA ?_ | refine zB ?_ | refine zC ?_ | refine zD ?_ | refine zE ?_ | refine zF ?_ | refine zG ?_ | refine zH ?_ | refine zJ ?_ | refine zI ?_ | refine splT ?_ | refine splF ?_ | refine splNot ?_
            | ((first | refine splIn (fun hc => ?_) (fun hc => ?_) | refine splD (fun hc => ?_) (fun hc => ?_) | refine splE (fun hc => ?_) (fun hc => ?_) | refine splNE (fun hc => ?_) (fun hc => ?_)) <;> first | (exfalso; omega) | (exfalso; dsimp only at hc; omega) | skip)
            | refine Exists.intro (α := List Value) [.slice (some ad2) L.length sc] ⟨⟨rfl, fun w' hw' => e1 w' hw'.1⟩, ?_⟩
            | refine Exists.intro (α := List Value) [iv x1] ⟨⟨rfl, fun w' hw' => e2 w' hw'.1 0 _ rfl⟩, ?_⟩
            | refine Exists.intro (α := List Value) [iv x2] ⟨⟨rfl, fun w' hw' => e2 w' hw'.1 1 _ rfl⟩, ?_⟩
            | refine Exists.intro (α := List Value) [iv x3] ⟨⟨rfl, fun w' hw' => e2 w' hw'.1 2 _ rfl⟩, ?_⟩
          all_goals first | (exfalso; omega) | exact ⟨k + 1, by omega, by omega, Ent.ren (rho [(2, 5), (3, 6)]) rfl (by rw [ht]; rfl) ⟨rfl, rfl, rfl, by rw [ht]; simp [oSV]; rfl, rfl, trivial⟩ (by rw [ht]; exact ⟨by simp [oM]; rfl, trivial⟩) fun _ h => h⟩
      | cons d0 D =>
        cases T with
        | nil =>
          repeat'
           conv => whnf
           first
            | refine zA ?_ | refine zB ?_ | refine zC ?_ | refine zD ?_ | refine zE ?_ | refine zF ?_ | refine zG ?_ | refine zH ?_ | refine zJ ?_ | refine zI ?_ | refine splT ?_ | refine splF ?_ | refine splNot ?_
            | ((first | refine splIn (fun hc => ?_) (fun hc => ?_) | refine splD (fun hc => ?_) (fun hc => ?_) | refine splE (fun hc => ?_) (fun hc => ?_) | refine splNE (fun hc => ?_) (fun hc => ?_)) <;> first | (exfalso; omega) | (exfalso; dsimp only at hc; omega) | skip)
            | refine Exists.intro (α := List Value) [.slice (some ad2) L.length sc] ⟨⟨rfl, fun w' hw' => e1 w' hw'.1⟩, ?_⟩
            | refine Exists.intro (α := List Value) [iv x1] ⟨⟨rfl, fun w' hw' => e2 w' hw'.1 0 _ rfl⟩, ?_⟩
            | refine Exists.intro (α := List Value) [iv x2] ⟨⟨rfl, fun w' hw' => e2 w' hw'.1 1 _ rfl⟩, ?_⟩
            | refine Exists.intro (α := List Value) [iv x3] ⟨⟨rfl, fun w' hw' => e2 w' hw'.1 2 _ rfl⟩, ?_⟩
          all_goals first | (exfalso; omega) | exact ⟨k + 1, by omega, by omega, Ent.ren (rho [(2, 5), (3, 6)]) rfl (by rw [ht]; rfl) ⟨rfl, rfl, rfl, by rw [ht]; rfl, rfl, trivial⟩ (by rw [ht]; exact ⟨rfl, rfl, trivial⟩) fun _ h => h⟩
        | cons a T =>
          simp only [List.length_cons] at hlen
          repeat'
           conv => whnf
           first
            | refine zA ?_ | refine zB ?_ | refine zC ?_ | refine zD ?_ | refine zE ?_ | refine zF ?_ | refine zG ?_ | refine zH ?_ | refine zJ ?_ | refine zI ?_ | refine splT ?_ | refine splF ?_ | refine splNot ?_
            | ((first | refine splIn (fun hc => ?_) (fun hc => ?_) | refine splD (fun hc => ?_) (fun hc => ?_) | refine splE (fun hc => ?_) (fun hc => ?_) | refine splNE (fun hc => ?_) (fun hc => ?_)) <;> first | (exfalso; omega) | (exfalso; dsimp only at hc; omega) | skip)
            | refine Exists.intro (α := List Value) [.slice (some ad2) L.length sc] ⟨⟨rfl, fun w' hw' => e1 w' hw'.1⟩, ?_⟩
            | refine Exists.intro (α := List Value) [iv x1] ⟨⟨rfl, fun w' hw' => e2 w' hw'.1 0 _ rfl⟩, ?_⟩
            | refine Exists.intro (α := List Value) [iv x2] ⟨⟨rfl, fun w' hw' => e2 w' hw'.1 1 _ rfl⟩, ?_⟩
            | refine Exists.intro (α := List Value) [iv x3] ⟨⟨rfl, fun w' hw' => e2 w' hw'.1 2 _ rfl⟩, ?_⟩
          all_goals first | (exfalso; omega) | exact ⟨k + 1, by omega, by omega, Ent.ren (rho [(2, 5), (3, 6)]) rfl (by rw [ht]; rfl) ⟨rfl, rfl, rfl, by rw [ht]; simp [oSV]; rfl, rfl, trivial⟩ (by rw [ht]; exact ⟨rfl, by simp [oM]; rfl, trivial⟩) fun _ h => h⟩
    · rw [List.take_of_length_le hkl3]
      cases L with
      | nil =>
        cases D with
        | nil =>
          repeat'
           conv => whnf
           first
            | refine zA ?_ | refine zB ?_ | refine zC ?_ | refine zD ?_ | refine zE ?_ | refine zF ?_ | refine zG ?_ | refine zH ?_ | refine zJ ?_ | refine zI ?_ | refine splT ?_ | refine splF ?_ | refine splNot ?_
            | ((first | refine splIn (fun hc => ?_) (fun hc => ?_) | refine splD (fun hc => ?_) (fun hc => ?_) | refine splE (fun hc => ?_) (fun hc => ?_) | refine splNE (fun hc => ?_) (fun hc => ?_)) <;> first | (exfalso; omega) | (exfalso; dsimp only at hc; omega) | skip)
            | refine Exists.intro (α := List Value) [.slice so ([] : List Ln).length sc] ⟨⟨rfl, fun w' hw' => e1 w' hw'.1⟩, ?_⟩
          exact Dis.ent (x := [(⟨none, 0, []⟩ : Lr)]) ⟨⟨by have := hl2 (none, 0); simp only [List.nil_append] at this; omega, hnew (none, 0)⟩, by have := hl2 (none, 0); simp only [List.nil_append] at this; omega⟩ (Ent.ren (rho [(0, 5), (1, 6)]) rfl rfl ⟨rfl, rfl, by rw [← hn]; rfl, trivial⟩ ⟨rfl, trivial⟩ (fun w' h => hh0 none 0 rfl w' h ⟨rfl, rfl⟩))
        | cons a D =>
          simp only [List.length_cons] at hn
          repeat'
           conv => whnf
           first
            | refine zA ?_ | refine zB ?_ | refine zC ?_ | refine zD ?_ | refine zE ?_ | refine zF ?_ | refine zG ?_ | refine zH ?_ | refine zJ ?_ | refine zI ?_ | refine splT ?_ | refine splF ?_ | refine splNot ?_
            | ((first | refine splIn (fun hc => ?_) (fun hc => ?_) | refine splD (fun hc => ?_) (fun hc => ?_) | refine splE (fun hc => ?_) (fun hc => ?_) | refine splNE (fun hc => ?_) (fun hc => ?_)) <;> first | (exfalso; omega) | (exfalso; dsimp only at hc; omega) | skip)
            | refine Exists.intro (α := List Value) [.slice so ([] : List Ln).length sc] ⟨⟨rfl, fun w' hw' => e1 w' hw'.1⟩, ?_⟩
          have hl3 : (a :: D ++ [(⟨none, 0, []⟩ : Lr)]).length = n + 1 := hl2 (none, 0)
          exact Dis.ent (x := a :: D ++ [(⟨none, 0, []⟩ : Lr)]) ⟨⟨by omega, hnew (none, 0)⟩, by omega⟩ (Ent.ren (rho [(0, 5), (1, 6)]) rfl rfl ⟨rfl, by simp [oSV]; rfl, by rw [← hn]; simp; rfl, trivial⟩ ⟨by simp [oM]; rfl, trivial⟩ (fun w' h => hh0 none 0 rfl w' h ⟨rfl, rfl⟩))
      | cons x L =>
        cases D with
        | nil =>
          repeat'
           conv => whnf
           first
            | refine zA ?_ | refine zB ?_ | refine zC ?_ | refine zD ?_ | refine zE ?_ | refine zF ?_ | refine zG ?_ | refine zH ?_ | refine zJ ?_ | refine zI ?_ | refine splT ?_ | refine splF ?_ | refine splNot ?_
            | ((first | refine splIn (fun hc => ?_) (fun hc => ?_) | refine splD (fun hc => ?_) (fun hc => ?_) | refine splE (fun hc => ?_) (fun hc => ?_) | refine splNE (fun hc => ?_) (fun hc => ?_)) <;> first | (exfalso; omega) | (exfalso; dsimp only at hc; omega) | skip)
            | refine Exists.intro (α := List Value) [.slice so (x :: L).length sc] ⟨⟨rfl, fun w' hw' => e1 w' hw'.1⟩, ?_⟩
            | refine appG env 4 1 1 [.os 2 3 (L.length + 1)] 44 0 [] [] rfl rfl rfl rfl rfl (by decide) rfl rfl rfl (fun _ => Nat.le_refl _) (by omega) (by decide) rfl (.inl ⟨rfl, rfl, rfl, rfl⟩) rfl ?_
          refine Dis.mk3 (w0 := w) (rho [(0, 5), (1, 6)]) [2] rfl (fun i hi => by rw [List.mem_singleton] at hi; subst hi; exact ⟨_, rfl, rfl⟩) (fun w' h => h.1) (fun β w1 hok hw1 hge => ⟨[(⟨some ⟨β 2, 0, none⟩, β 3, x :: L⟩ : Lr)], ⟨⟨by have := hl2 (none, 0); simp only [List.nil_append, List.length_singleton] at this ⊢; omega, hnew (some ⟨β 2, 0, none⟩, β 3)⟩, by have := hl2 (none, 0); simp only [List.nil_append, List.length_singleton] at this ⊢; omega⟩, ⟨⟨_, rfl, rfl⟩, ⟨_, rfl, rfl⟩, ⟨_, rfl, by rw [← hn]; rfl⟩, trivial⟩, ⟨⟨rfl, _, rfl, fun _ => rfl, fun w2 y hy => hy⟩, trivial⟩, rfl, fun w2 hw2 hLo => hh1 (β 2) (β 3) w2 (by simp) (hge 2 _ rfl rfl) hw2 (hLo 2 (by simp) _ rfl)⟩)
        | cons a D =>
          simp only [List.length_cons] at hn
          repeat'
           conv => whnf
           first
            | refine zA ?_ | refine zB ?_ | refine zC ?_ | refine zD ?_ | refine zE ?_ | refine zF ?_ | refine zG ?_ | refine zH ?_ | refine zJ ?_ | refine zI ?_ | refine splT ?_ | refine splF ?_ | refine splNot ?_
            | ((first | refine splIn (fun hc => ?_) (fun hc => ?_) | refine splD (fun hc => ?_) (fun hc => ?_) | refine splE (fun hc => ?_) (fun hc => ?_) | refine splNE (fun hc => ?_) (fun hc => ?_)) <;> first | (exfalso; omega) | (exfalso; dsimp only at hc; omega) | skip)
            | refine Exists.intro (α := List Value) [.slice so (x :: L).length sc] ⟨⟨rfl, fun w' hw' => e1 w' hw'.1⟩, ?_⟩
            | refine appG env 4 1 1 [.os 2 3 (L.length + 1)] 44 (D.length + 1) ((a :: D).flatMap Lr.cs) [0] rfl rfl rfl rfl rfl (by decide) rfl rfl rfl (fun h => by cases h) (by omega) (by show (D.length + 1 + 1) * 24 ≤ 140737488355328; omega) rfl (.inr ⟨0, 1, rfl, rfl, rfl, (by show 0 < 5; decide)⟩) rfl ?_
          have hl3 : ∀ y : Option Addr × Nat, (a :: D ++ [(⟨y.1, y.2, x :: L⟩ : Lr)]).length = D.length + 1 + 1 := fun y => by rw [hl2]; omega
          refine Dis.mk3 (w0 := w) (rho [(0, 5), (1, 6)]) [2] rfl (fun i hi => by rw [List.mem_singleton] at hi; subst hi; exact ⟨_, rfl, rfl⟩) (fun w' h => h.1) (fun β w1 hok hw1 hge => ⟨a :: D ++ [(⟨some ⟨β 2, 0, none⟩, β 3, x :: L⟩ : Lr)], ⟨⟨by have := hl3 (some ⟨β 2, 0, none⟩, β 3); dsimp only at this; omega, hnew (some ⟨β 2, 0, none⟩, β 3)⟩, by have := hl3 (some ⟨β 2, 0, none⟩, β 3); dsimp only at this; omega⟩, ⟨⟨_, rfl, rfl⟩, ⟨_, rfl, by simp [oSV]; rfl⟩, ⟨_, rfl, by rw [hl3 (some ⟨β 2, 0, none⟩, β 3), ← hn]; rfl⟩, trivial⟩, by simp [oM]; exact ⟨⟨rfl, _, rfl, fun _ => rfl, fun w2 y hy => by simp [Blk.ok] at hy ⊢; exact hy⟩, trivial⟩, rfl, fun w2 hw2 hLo => hh1 (β 2) (β 3) w2 (by simp) (hge 2 _ rfl rfl) hw2 (hLo 2 (by simp) _ rfl)⟩)
  · have hk2 : D.length = S.length := by omega
    rw [hk2, List.take_of_length_le (Nat.le_of_eq (List.length_map ..))] at hmap
    cases D with
    | nil =>
      repeat'
       conv => whnf
       first
        | refine zA ?_ | refine zB ?_ | refine zC ?_ | refine zD ?_ | refine zE ?_ | refine zF ?_ | refine zG ?_ | refine zH ?_ | refine zJ ?_ | refine zI ?_ | refine splT ?_ | refine splF ?_ | refine splNot ?_
        | ((first | refine splIn (fun hc => ?_) (fun hc => ?_) | refine splD (fun hc => ?_) (fun hc => ?_) | refine splE (fun hc => ?_) (fun hc => ?_) | refine splNE (fun hc => ?_) (fun hc => ?_)) <;> first | (exfalso; omega) | (exfalso; dsimp only at hc; omega) | skip)
      exact ⟨fun w' h => h.1, fun β w' hB hblk => ⟨⟨none, 0, [], hmap, fun r hr => by cases hr⟩, rfl, fun w2 k2 => ⟨.inl ⟨rfl, rfl⟩, fun r hr => by cases hr⟩⟩⟩
    | cons a L =>
      repeat'
       conv => whnf
       first
        | refine zA ?_ | refine zB ?_ | refine zC ?_ | refine zD ?_ | refine zE ?_ | refine zF ?_ | refine zG ?_ | refine zH ?_ | refine zJ ?_ | refine zI ?_ | refine splT ?_ | refine splF ?_ | refine splNot ?_
        | ((first | refine splIn (fun hc => ?_) (fun hc => ?_) | refine splD (fun hc => ?_) (fun hc => ?_) | refine splE (fun hc => ?_) (fun hc => ?_) | refine splNE (fun hc => ?_) (fun hc => ?_)) <;> first | (exfalso; omega) | (exfalso; dsimp only at hc; omega) | skip)
      refine ⟨fun w' h => h.1, fun β w' hB hblk => ?_⟩
      obtain ⟨y, h1, h2⟩ := oEnd (sz := 1) (f := Lr.cs) (fun _ => rfl) a L (hblk 0 _ rfl rfl)
      exact ⟨⟨y.1, y.2, a :: L, hmap, fun r hr => (hB.2 r hr).2⟩, h1, fun w2 k2 => ⟨h2 w2 k2, fun r hr => (hB.2 r hr).1 w2 k2⟩⟩

set_option maxHeartbeats 4000000 in
set_option maxRecDepth 100000 in
theorem Back_ok (o : Option Addr) (c : Nat) (S : List Lr) (w : World) (h : TbL o c S w) (hl : S.length ≤ 1000000) (hrl : ∀ r ∈ S, r.L.length ≤ 1000000) :
    Calls Tryz.prog 18 #[.slice o S.length c] w fun e w' => ∃ y : TbF (S.map Lr.L), e = .returned y.v ∧ Below w.heap.size w w' ∧ St w.heap.size (TbL y.o y.c y.D) w' := by
  obtain ⟨hrd, hR⟩ := h
  refine calls_fam env mixed Tryz.func18 has18 Tryz.ntmps18 [.slice o S.length c] (by simp) ?_
  repeat'
   conv => whnf
   first
    | refine zA ?_ | refine zB ?_ | refine zC ?_ | refine zD ?_ | refine zE ?_ | refine zF ?_ | refine zG ?_ | refine zH ?_ | refine zJ ?_ | refine zI ?_ | refine splT ?_ | refine splF ?_ | refine splNot ?_
    | ((first | refine splIn (fun hc => ?_) (fun hc => ?_) | refine splD (fun hc => ?_) (fun hc => ?_) | refine splE (fun hc => ?_) (fun hc => ?_) | refine splNE (fun hc => ?_) (fun hc => ?_)) <;> first | (exfalso; omega) | (exfalso; dsimp only at hc; omega) | skip)
  refine loopD 2 (fun D : List Lr => [(0, .v (.slice o S.length c)), (3, oSV 0 1 D), (4, .v (iv D.length))]) (fun D => oM 0 1 1 Lr.cs 64 D)
    (fun (D : List Lr) w' => Below w.heap.size w w' ∧ ∀ r ∈ D, St w.heap.size (Rd 3 Ln.cs (.slice r.o r.L.length r.c) r.L) w' ∧ r.L.length ≤ r.c ∧ (r.L = [] → r.o = none ∧ r.c = 0))
    (fun D => D.length ≤ S.length ∧ D.map Lr.L = (S.map Lr.L).take D.length) (fun D => S.length - D.length) (Dis.ent (x := []) ⟨Nat.zero_le _, rfl⟩ (Ent.weak rfl ⟨rfl, rfl, rfl, trivial⟩ trivial (fun w' h => ⟨h, fun r hr => by cases hr⟩))) (fun D _ => by cases D <;> exact ⟨rfl, rfl⟩) ?_
  intro D ⟨hk, hmap⟩
  rcases Nat.lt_or_ge D.length S.length with hkl | hkl
  · obtain ⟨⟨so, sc, L⟩, hx⟩ : ∃ b, S[D.length]? = some b := ⟨_, List.getElem?_eq_getElem hkl⟩
    obtain ⟨_, ad, rfl, _⟩ := hrd.ptr (by omega)
    have e1 := fun (w' : World) hw' => rd_ati (hrd.below (w' := w') hw') hx
    have hr := hR _ (List.mem_of_getElem? hx)
    have hrb := hrl _ (List.mem_of_getElem? hx)
    dsimp only at hr hrb
    have hm : (S.map Lr.L)[D.length]? = some L := by rw [List.getElem?_map, hx]; rfl
    have hnew : ∀ y : Option Addr × Nat, (D ++ [(⟨y.1, y.2, L⟩ : Lr)]).map Lr.L = (S.map Lr.L).take (D ++ [(⟨y.1, y.2, L⟩ : Lr)]).length := fun y => by
      rw [List.map_append, hmap, List.length_append, List.length_singleton, List.take_add_one, hm]; rfl
    have hl2 : ∀ y : Option Addr × Nat, (D ++ [(⟨y.1, y.2, L⟩ : Lr)]).length = D.length + 1 := fun y => by simp
    have hh0 : ∀ (o : Option Addr) (c : Nat), L = [] → ∀ w', (fun (D : List Lr) w' => Below w.heap.size w w' ∧ ∀ r ∈ D, St w.heap.size (Rd 3 Ln.cs (.slice r.o r.L.length r.c) r.L) w' ∧ r.L.length ≤ r.c ∧ (r.L = [] → r.o = none ∧ r.c = 0)) D w' → (o = none ∧ c = 0 → (fun (D : List Lr) w' => Below w.heap.size w w' ∧ ∀ r ∈ D, St w.heap.size (Rd 3 Ln.cs (.slice r.o r.L.length r.c) r.L) w' ∧ r.L.length ≤ r.c ∧ (r.L = [] → r.o = none ∧ r.c = 0)) (D ++ [(⟨o, c, L⟩ : Lr)]) w') := fun o c hxs w' h hoc => ⟨h.1, fun r hr => by
      rcases List.mem_append.1 hr with hr | hr
      · exact h.2 r hr
      · rw [List.mem_singleton] at hr; subst hr; subst hxs; obtain ⟨rfl, rfl⟩ := hoc; exact ⟨fun _ _ => .inl ⟨rfl, rfl⟩, Nat.le_refl _, fun _ => ⟨rfl, rfl⟩⟩⟩
    have hh1 : ∀ (b d : Nat) (w' : World), L ≠ [] → w.heap.size ≤ b → (fun (D : List Lr) w' => Below w.heap.size w w' ∧ ∀ r ∈ D, St w.heap.size (Rd 3 Ln.cs (.slice r.o r.L.length r.c) r.L) w' ∧ r.L.length ≤ r.c ∧ (r.L = [] → r.o = none ∧ r.c = 0)) D w' → w'.ownsRow 0 109 3 (.slice (some ⟨b, 0, none⟩) L.length d) L.length (L.flatMap Ln.cs) →
        (fun (D : List Lr) w' => Below w.heap.size w w' ∧ ∀ r ∈ D, St w.heap.size (Rd 3 Ln.cs (.slice r.o r.L.length r.c) r.L) w' ∧ r.L.length ≤ r.c ∧ (r.L = [] → r.o = none ∧ r.c = 0)) (D ++ [(⟨some ⟨b, 0, none⟩, d, L⟩ : Lr)]) w' := fun b d w' hne hb h ho => ⟨h.1, fun r hr => by
      rcases List.mem_append.1 hr with hr | hr
      · exact h.2 r hr
      · rw [List.mem_singleton] at hr; subst hr; exact ⟨rows_st (sz := 3) (f := Ln.cs) (fun _ => rfl) rfl rfl hb ho, own_cap ho, fun h => absurd h hne⟩⟩
    have hSl : S.length ≤ 1000000 := hl
    generalize hn : D.length = n at *
    repeat'
     conv => whnf
     first
      | refine zA ?_ | refine zB ?_ | refine zC ?_ | refine zD ?_ | refine zE ?_ | refine zF ?_ | refine zG ?_ | refine zH ?_ | refine zJ ?_ | refine zI ?_ | refine splT ?_ | refine splF ?_ | refine splNot ?_
      | ((first | refine splIn (fun hc => ?_) (fun hc => ?_) | refine splD (fun hc => ?_) (fun hc => ?_) | refine splE (fun hc => ?_) (fun hc => ?_) | refine splNE (fun hc => ?_) (fun hc => ?_)) <;> first | (exfalso; omega) | (exfalso; dsimp only at hc; omega) | skip)
    conv => whnf
    refine loopN 4 (fun k : Nat => [(0, .v (.slice (some ad) S.length c)), (3, oSV 0 1 D), (4, .v (iv n)), (5, oSV 2 3 (L.take k)), (6, .v (iv k))]) (fun k => oM 0 1 1 Lr.cs 64 D ++ oM 2 3 3 Ln.cs 109 (L.take k)) (fun k => k ≤ L.length) (fun k => L.length - k) 0 (Nat.zero_le _) ⟨rfl, rfl, rfl, rfl, rfl, trivial⟩ (by cases D <;> first | exact trivial | exact ⟨rfl, trivial⟩) (fun k _ => by cases D <;> cases L.take k <;> exact ⟨rfl, rfl⟩) ?_
    intro k hk3
    rcases Nat.lt_or_ge k L.length with hkl3 | hkl3
    · obtain ⟨⟨x1, x2, x3⟩, hx3⟩ : ∃ b, L[k]? = some b := ⟨_, List.getElem?_eq_getElem hkl3⟩
      obtain ⟨_, ad2, rfl, _⟩ := hr.ptr (by omega)
      have e2 := fun (w' : World) hw' => rd_fld (hr.below (w' := w') hw') hx3
      have ht : L.take (k + 1) = L.take k ++ [⟨x1, x2, x3⟩] := by rw [List.take_add_one, hx3]; rfl
      have hlen : (L.take k).length ≤ k := List.length_take_le _ _
      generalize L.take k = T at *
      cases D with
      | nil =>
        cases T with
        | nil =>
          repeat'
           conv => whnf
           first
            | refine zA ?_ | refine zB ?_ | refine zC ?_ | refine zD ?_ | refine zE ?_ | refine zF ?_ | refine zG ?_ | refine zH ?_ | refine zJ ?_ | refine zI ?_ | refine splT ?_ | refine splF ?_ | refine splNot ?_
            | ((first | refine splIn (fun hc => ?_) (fun hc => ?_) | refine splD (fun hc => ?_) (fun hc => ?_) | refine splE (fun hc => ?_) (fun hc => ?_) | refine splNE (fun hc => ?_) (fun hc => ?_)) <;> first | (exfalso; omega) | (exfalso; dsimp only at hc; omega) | skip)
            | refine Exists.intro (α := List Value) [.slice (some ad2) L.length sc] ⟨⟨rfl, fun w' hw' => e1 w' hw'.1⟩, ?_⟩
            | refine Exists.intro (α := List Value) [iv x1] ⟨⟨rfl, fun w' hw' => e2 w' hw'.1 0 _ rfl⟩, ?_⟩
            | refine Exists.intro (α := List Value) [iv x2] ⟨⟨rfl, fun w' hw' => e2 w' hw'.1 1 _ rfl⟩, ?_⟩
            | refine Exists.intro (α := List Value) [iv x3] ⟨⟨rfl, fun w' hw' => e2 w' hw'.1 2 _ rfl⟩, ?_⟩
          all_goals first | (exfalso; omega) | exact ⟨k + 1, by omega, by omega, Ent.ren (rho [(2, 5), (3, 6)]) rfl (by rw [ht]; rfl) ⟨rfl, rfl, rfl, by rw [ht]; rfl, rfl, trivial⟩ (by rw [ht]; exact ⟨rfl, trivial⟩) fun _ h => h⟩
        | cons a T =>
          simp only [List.length_cons] at hlen
          repeat'
           conv => whnf
           first
            | refine zA ?_ | refine zB ?_ | refine zC ?_ | refine zD ?_ | refine zE ?_ | refine zF ?_ | refine zG ?_ | refine zH ?_ | refine zJ ?_ | refine zI ?_ | refine splT ?_ | refine splF ?_ | refine splNot ?_
            | ((first | refine splIn (fun hc => ?_) (fun hc => ?_) | refine splD (fun hc => ?_) (fun hc => ?_) | refine splE (fun hc => ?_) (fun hc => ?_) | refine splNE (fun hc => ?_) (fun hc => ?_)) <;> first | (exfalso; omega) | (exfalso; dsimp only at hc; omega) | skip)
            | refine Exists.intro (α := List Value) [.slice (some ad2) L.length sc] ⟨⟨rfl, fun w' hw' => e1 w' hw'.1⟩, ?_⟩
            | refine Exists.intro (α := List Value) [iv x1] ⟨⟨rfl, fun w' hw' => e2 w' hw'.1 0 _ rfl⟩, ?_⟩
            | refine Exists.intro (α := List Value) [iv x2] ⟨⟨rfl, fun w' hw' => e2 w' hw'.1 1 _ rfl⟩, ?_⟩
            | refine Exists.intro (α := List Value) [iv x3] ⟨⟨rfl, fun w' hw' => e2 w' hw'.1 2 _ rfl⟩, ?_⟩
          all_goals first | (exfalso; omega) | exact ⟨k + 1, by omega, by omega, Ent.ren (rho [(2, 5), (3, 6)]) rfl (by rw [ht]; rfl) ⟨rfl, rfl, rfl, by rw [ht]; simp [oSV]; rfl, rfl, trivial⟩ (by rw [ht]; exact ⟨by simp [oM]; rfl, trivial⟩) fun _ h => h⟩
      | cons d0 D =>
        cases T with
        | nil =>
          repeat'
           conv => whnf
           first
            | refine zA ?_ | refine zB ?_ | refine zC ?_ | refine zD ?_ | refine zE ?_ | refine zF ?_ | refine zG ?_ | refine zH ?_ | refine zJ ?_ | refine zI ?_ | refine splT ?_ | refine splF ?_ | refine splNot ?_
            | ((first | refine splIn (fun hc => ?_) (fun hc => ?_) | refine splD (fun hc => ?_) (fun hc => ?_) | refine splE (fun hc => ?_) (fun hc => ?_) | refine splNE (fun hc => ?_) (fun hc => ?_)) <;> first | (exfalso; omega) | (exfalso; dsimp only at hc; omega) | skip)
            | refine Exists.intro (α := List Value) [.slice (some ad2) L.length sc] ⟨⟨rfl, fun w' hw' => e1 w' hw'.1⟩, ?_⟩
            | refine Exists.intro (α := List Value) [iv x1] ⟨⟨rfl, fun w' hw' => e2 w' hw'.1 0 _ rfl⟩, ?_⟩
            | refine Exists.intro (α := List Value) [iv x2] ⟨⟨rfl, fun w' hw' => e2 w' hw'.1 1 _ rfl⟩, ?_⟩
            | refine Exists.intro (α := List Value) [iv x3] ⟨⟨rfl, fun w' hw' => e2 w' hw'.1 2 _ rfl⟩, ?_⟩
          all_goals first | (exfalso; omega) | exact ⟨k + 1, by omega, by omega, Ent.ren (rho [(2, 5), (3, 6)]) rfl (by rw [ht]; rfl) ⟨rfl, rfl, rfl, by rw [ht]; rfl, rfl, trivial⟩ (by rw [ht]; exact ⟨rfl, rfl, trivial⟩) fun _ h => h⟩
        | cons a T =>
          simp only [List.length_cons] at hlen
          repeat'
           conv => whnf
           first
            | refine zA ?_ | refine zB ?_ | refine zC ?_ | refine zD ?_ | refine zE ?_ | refine zF ?_ | refine zG ?_ | refine zH ?_ | refine zJ ?_ | refine zI ?_ | refine splT ?_ | refine splF ?_ | refine splNot ?_
            | ((first | refine splIn (fun hc => ?_) (fun hc => ?_) | refine splD (fun hc => ?_) (fun hc => ?_) | refine splE (fun hc => ?_) (fun hc => ?_) | refine splNE (fun hc => ?_) (fun hc => ?_)) <;> first | (exfalso; omega) | (exfalso; dsimp only at hc; omega) | skip)
            | refine Exists.intro (α := List Value) [.slice (some ad2) L.length sc] ⟨⟨rfl, fun w' hw' => e1 w' hw'.1⟩, ?_⟩
            | refine Exists.intro (α := List Value) [iv x1] ⟨⟨rfl, fun w' hw' => e2 w' hw'.1 0 _ rfl⟩, ?_⟩
            | refine Exists.intro (α := List Value) [iv x2] ⟨⟨rfl, fun w' hw' => e2 w' hw'.1 1 _ rfl⟩, ?_⟩
            | refine Exists.intro (α := List Value) [iv x3] ⟨⟨rfl, fun w' hw' => e2 w' hw'.1 2 _ rfl⟩, ?_⟩
          all_goals first | (exfalso; omega) | exact ⟨k + 1, by omega, by omega, Ent.ren (rho [(2, 5), (3, 6)]) rfl (by rw [ht]; rfl) ⟨rfl, rfl, rfl, by rw [ht]; simp [oSV]; rfl, rfl, trivial⟩ (by rw [ht]; exact ⟨rfl, by simp [oM]; rfl, trivial⟩) fun _ h => h⟩
    · rw [List.take_of_length_le hkl3]
      cases L with
      | nil =>
        cases D with
        | nil =>
          repeat'
           conv => whnf
           first
            | refine zA ?_ | refine zB ?_ | refine zC ?_ | refine zD ?_ | refine zE ?_ | refine zF ?_ | refine zG ?_ | refine zH ?_ | refine zJ ?_ | refine zI ?_ | refine splT ?_ | refine splF ?_ | refine splNot ?_
            | ((first | refine splIn (fun hc => ?_) (fun hc => ?_) | refine splD (fun hc => ?_) (fun hc => ?_) | refine splE (fun hc => ?_) (fun hc => ?_) | refine splNE (fun hc => ?_) (fun hc => ?_)) <;> first | (exfalso; omega) | (exfalso; dsimp only at hc; omega) | skip)
            | refine Exists.intro (α := List Value) [.slice so ([] : List Ln).length sc] ⟨⟨rfl, fun w' hw' => e1 w' hw'.1⟩, ?_⟩
          exact Dis.ent (x := [(⟨none, 0, []⟩ : Lr)]) ⟨⟨by have := hl2 (none, 0); simp only [List.nil_append] at this; omega, hnew (none, 0)⟩, by have := hl2 (none, 0); simp only [List.nil_append] at this; omega⟩ (Ent.ren (rho [(0, 5), (1, 6)]) rfl rfl ⟨rfl, rfl, by rw [← hn]; rfl, trivial⟩ ⟨rfl, trivial⟩ (fun w' h => hh0 none 0 rfl w' h ⟨rfl, rfl⟩))
        | cons a D =>
          simp only [List.length_cons] at hn
          repeat'
           conv => whnf
           first
            | refine zA ?_ | refine zB ?_ | refine zC ?_ | refine zD ?_ | refine zE ?_ | refine zF ?_ | refine zG ?_ | refine zH ?_ | refine zJ ?_ | refine zI ?_ | refine splT ?_ | refine splF ?_ | refine splNot ?_
            | ((first | refine splIn (fun hc => ?_) (fun hc => ?_) | refine splD (fun hc => ?_) (fun hc => ?_) | refine splE (fun hc => ?_) (fun hc => ?_) | refine splNE (fun hc => ?_) (fun hc => ?_)) <;> first | (exfalso; omega) | (exfalso; dsimp only at hc; omega) | skip)
            | refine Exists.intro (α := List Value) [.slice so ([] : List Ln).length sc] ⟨⟨rfl, fun w' hw' => e1 w' hw'.1⟩, ?_⟩
          have hl3 : (a :: D ++ [(⟨none, 0, []⟩ : Lr)]).length = n + 1 := hl2 (none, 0)
          exact Dis.ent (x := a :: D ++ [(⟨none, 0, []⟩ : Lr)]) ⟨⟨by omega, hnew (none, 0)⟩, by omega⟩ (Ent.ren (rho [(0, 5), (1, 6)]) rfl rfl ⟨rfl, by simp [oSV]; rfl, by rw [← hn]; simp; rfl, trivial⟩ ⟨by simp [oM]; rfl, trivial⟩ (fun w' h => hh0 none 0 rfl w' h ⟨rfl, rfl⟩))
      | cons x L =>
        cases D with
        | nil =>
          repeat'
           conv => whnf
           first
            | refine zA ?_ | refine zB ?_ | refine zC ?_ | refine zD ?_ | refine zE ?_ | refine zF ?_ | refine zG ?_ | refine zH ?_ | refine zJ ?_ | refine zI ?_ | refine splT ?_ | refine splF ?_ | refine splNot ?_
            | ((first | refine splIn (fun hc => ?_) (fun hc => ?_) | refine splD (fun hc => ?_) (fun hc => ?_) | refine splE (fun hc => ?_) (fun hc => ?_) | refine splNE (fun hc => ?_) (fun hc => ?_)) <;> first | (exfalso; omega) | (exfalso; dsimp only at hc; omega) | skip)
            | refine Exists.intro (α := List Value) [.slice so (x :: L).length sc] ⟨⟨rfl, fun w' hw' => e1 w' hw'.1⟩, ?_⟩
            | refine appG env 4 1 1 [.os 2 3 (L.length + 1)] 64 0 [] [] rfl rfl rfl rfl rfl (by decide) rfl rfl rfl (fun _ => Nat.le_refl _) (by omega) (by decide) rfl (.inl ⟨rfl, rfl, rfl, rfl⟩) rfl ?_
          refine Dis.mk3 (w0 := w) (rho [(0, 5), (1, 6)]) [2] rfl (fun i hi => by rw [List.mem_singleton] at hi; subst hi; exact ⟨_, rfl, rfl⟩) (fun w' h => h.1) (fun β w1 hok hw1 hge => ⟨[(⟨some ⟨β 2, 0, none⟩, β 3, x :: L⟩ : Lr)], ⟨⟨by have := hl2 (none, 0); simp only [List.nil_append, List.length_singleton] at this ⊢; omega, hnew (some ⟨β 2, 0, none⟩, β 3)⟩, by have := hl2 (none, 0); simp only [List.nil_append, List.length_singleton] at this ⊢; omega⟩, ⟨⟨_, rfl, rfl⟩, ⟨_, rfl, rfl⟩, ⟨_, rfl, by rw [← hn]; rfl⟩, trivial⟩, ⟨⟨rfl, _, rfl, fun _ => rfl, fun w2 y hy => hy⟩, trivial⟩, rfl, fun w2 hw2 hLo => hh1 (β 2) (β 3) w2 (by simp) (hge 2 _ rfl rfl) hw2 (hLo 2 (by simp) _ rfl)⟩)
        | cons a D =>
          simp only [List.length_cons] at hn
          repeat'
           conv => whnf
           first
            | refine zA ?_ | refine zB ?_ | refine zC ?_ | refine zD ?_ | refine zE ?_ | refine zF ?_ | refine zG ?_ | refine zH ?_ | refine zJ ?_ | refine zI ?_ | refine splT ?_ | refine splF ?_ | refine splNot ?_
            | ((first | refine splIn (fun hc => ?_) (fun hc => ?_) | refine splD (fun hc => ?_) (fun hc => ?_) | refine splE (fun hc => ?_) (fun hc => ?_) | refine splNE (fun hc => ?_) (fun hc => ?_)) <;> first | (exfalso; omega) | (exfalso; dsimp only at hc; omega) | skip)
            | refine Exists.intro (α := List Value) [.slice so (x :: L).length sc] ⟨⟨rfl, fun w' hw' => e1 w' hw'.1⟩, ?_⟩
            | refine appG env 4 1 1 [.os 2 3 (L.length + 1)] 64 (D.length + 1) ((a :: D).flatMap Lr.cs) [0] rfl rfl rfl rfl rfl (by decide) rfl rfl rfl (fun h => by cases h) (by omega) (by show (D.length + 1 + 1) * 24 ≤ 140737488355328; omega) rfl (.inr ⟨0, 1, rfl, rfl, rfl, (by show 0 < 5; decide)⟩) rfl ?_
          have hl3 : ∀ y : Option Addr × Nat, (a :: D ++ [(⟨y.1, y.2, x :: L⟩ : Lr)]).length = D.length + 1 + 1 := fun y => by rw [hl2]; omega
          refine Dis.mk3 (w0 := w) (rho [(0, 5), (1, 6)]) [2] rfl (fun i hi => by rw [List.mem_singleton] at hi; subst hi; exact ⟨_, rfl, rfl⟩) (fun w' h => h.1) (fun β w1 hok hw1 hge => ⟨a :: D ++ [(⟨some ⟨β 2, 0, none⟩, β 3, x :: L⟩ : Lr)], ⟨⟨by have := hl3 (some ⟨β 2, 0, none⟩, β 3); dsimp only at this; omega, hnew (some ⟨β 2, 0, none⟩, β 3)⟩, by have := hl3 (some ⟨β 2, 0, none⟩, β 3); dsimp only at this; omega⟩, ⟨⟨_, rfl, rfl⟩, ⟨_, rfl, by simp [oSV]; rfl⟩, ⟨_, rfl, by rw [hl3 (some ⟨β 2, 0, none⟩, β 3), ← hn]; rfl⟩, trivial⟩, by simp [oM]; exact ⟨⟨rfl, _, rfl, fun _ => rfl, fun w2 y hy => by simp [Blk.ok] at hy ⊢; exact hy⟩, trivial⟩, rfl, fun w2 hw2 hLo => hh1 (β 2) (β 3) w2 (by simp) (hge 2 _ rfl rfl) hw2 (hLo 2 (by simp) _ rfl)⟩)
  · have hk2 : D.length = S.length := by omega
    rw [hk2, List.take_of_length_le (Nat.le_of_eq (List.length_map ..))] at hmap
    cases D with
    | nil =>
      repeat'
       conv => whnf
       first
        | refine zA ?_ | refine zB ?_ | refine zC ?_ | refine zD ?_ | refine zE ?_ | refine zF ?_ | refine zG ?_ | refine zH ?_ | refine zJ ?_ | refine zI ?_ | refine splT ?_ | refine splF ?_ | refine splNot ?_
        | ((first | refine splIn (fun hc => ?_) (fun hc => ?_) | refine splD (fun hc => ?_) (fun hc => ?_) | refine splE (fun hc => ?_) (fun hc => ?_) | refine splNE (fun hc => ?_) (fun hc => ?_)) <;> first | (exfalso; omega) | (exfalso; dsimp only at hc; omega) | skip)
      exact ⟨fun w' h => h.1, fun β w' hB hblk => ⟨⟨none, 0, [], hmap, fun r hr => by cases hr⟩, rfl, fun w2 k2 => ⟨.inl ⟨rfl, rfl⟩, fun r hr => by cases hr⟩⟩⟩
    | cons a L =>
      repeat'
       conv => whnf
       first
        | refine zA ?_ | refine zB ?_ | refine zC ?_ | refine zD ?_ | refine zE ?_ | refine zF ?_ | refine zG ?_ | refine zH ?_ | refine zJ ?_ | refine zI ?_ | refine splT ?_ | refine splF ?_ | refine splNot ?_
        | ((first | refine splIn (fun hc => ?_) (fun hc => ?_) | refine splD (fun hc => ?_) (fun hc => ?_) | refine splE (fun hc => ?_) (fun hc => ?_) | refine splNE (fun hc => ?_) (fun hc => ?_)) <;> first | (exfalso; omega) | (exfalso; dsimp only at hc; omega) | skip)
      refine ⟨fun w' h => h.1, fun β w' hB hblk => ?_⟩
      obtain ⟨y, h1, h2⟩ := oEnd (sz := 1) (f := Lr.cs) (fun _ => rfl) a L (hblk 0 _ rfl rfl)
      exact ⟨⟨y.1, y.2, a :: L, hmap, fun r hr => (hB.2 r hr).2⟩, h1, fun w2 k2 => ⟨h2 w2 k2, fun r hr => (hB.2 r hr).1 w2 k2⟩⟩
end Go.Proofs.YtkbfcofifhngfaaGreat
