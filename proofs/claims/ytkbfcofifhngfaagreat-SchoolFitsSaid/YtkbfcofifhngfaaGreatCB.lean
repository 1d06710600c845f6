/- Lists and rows of lists in new memory: what these functions return. -/
import Derived.Test.YtkbfcofifhngfaaGreatCA
import Derived.Maps.AppendAt
namespace Go.Proofs.YtkbfcofifhngfaaGreat
open Go Tx Go.RowKit
set_option linter.unusedSimpArgs false
set_option linter.unusedVariables false

theorem list_nil (c : Nat) (w : World) : Calls Tryz.prog 49 #[.slice none 0 0] w fun e w' => e = .returned (.slice none 0 0) ∧ Below w.heap.size w w' := by
  refine calls_val env mixed Tryz.func49 has49 Tryz.ntmps49 [.slice none 0 0] (by simp) ?_
  repeat'
   conv => whnf
   first
    | refine zA ?_ | refine zB ?_ | refine zC ?_ | refine zD ?_ | refine zE ?_ | refine zF ?_ | refine zG ?_ | refine zH ?_ | refine zJ ?_ | refine zI ?_ | refine splT ?_ | refine splF ?_ | refine splNot ?_
    | ((first | refine splIn (fun hc => ?_) (fun hc => ?_) | refine splD (fun hc => ?_) (fun hc => ?_) | refine splE (fun hc => ?_) (fun hc => ?_) | refine splNE (fun hc => ?_) (fun hc => ?_)) <;> first | (exfalso; omega) | (exfalso; dsimp only at hc; omega) | skip)
  all_goals exact ⟨fun β => rfl, fun w' h => h⟩
set_option maxRecDepth 100000 in
theorem list_own (A : List Int) (o : Option Addr) (c : Nat) (w : World) (hrd : Rd 1 iF (.slice o A.length c) A w) (h0 : A ≠ []) (hl : A.length ≤ 1000000) :
    Calls Tryz.prog 49 #[.slice o A.length c] w fun e w' => ∃ b d, e = .returned (.slice (some ⟨b, 0, none⟩) A.length d) ∧ w.heap.size ≤ b ∧ Below w.heap.size w w' ∧ w'.ownsRow 0 3 1 (.slice (some ⟨b, 0, none⟩) A.length d) A.length (A.flatMap iF) := by
  refine calls_fam2 env mixed Tryz.func49 has49 Tryz.ntmps49 [.slice o A.length c] (by simp) ?_
  have hp : 1 ≤ A.length := by cases A with | nil => exact absurd rfl h0 | cons a A => simp
  obtain ⟨_, ad, rfl, _⟩ := hrd.ptr hp
  have he := fun (w' : World) (hb : Below w.heap.size w w') => Rd.ext (f := iF) (sz := 1) (fun _ => rfl) (hrd.below hb)
  have hln : (A.flatMap iF).length = A.length * 1 := by rw [lenF, Nat.mul_one]
  have hon := one1 A
  generalize A.flatMap iF = X at *
  generalize A.length = n at *
  repeat'
   conv => whnf
   first
    | refine zA ?_ | refine zB ?_ | refine zC ?_ | refine zD ?_ | refine zE ?_ | refine zF ?_ | refine zG ?_ | refine zH ?_ | refine zJ ?_ | refine zI ?_ | refine splT ?_ | refine splF ?_ | refine splNot ?_
    | ((first | refine splIn (fun hc => ?_) (fun hc => ?_) | refine splD (fun hc => ?_) (fun hc => ?_) | refine splE (fun hc => ?_) (fun hc => ?_) | refine splNE (fun hc => ?_) (fun hc => ?_)) <;> first | (exfalso; omega) | (exfalso; dsimp only at hc; omega) | skip)
    | refine Exists.intro (α := List Value) X ⟨⟨hln, fun w' hw' => he w' hw', hon⟩, ?_⟩
  have hz : 0 + n = n := Nat.zero_add n
  exact ⟨fun w' h => h, fun β w' hB hB2 hblk => ⟨β 0, β 1, congrArg (fun z => Ending.returned (.slice (some ⟨β 0, 0, none⟩) z (β 1))) hz, (hblk 0 _ rfl rfl).1, hB2, by have := (hblk 0 _ rfl rfl).2; simp only [Blk.ok, List.nil_append, hz] at this; exact this⟩⟩
set_option maxRecDepth 100000 in
theorem list_ext (ad : Addr) (c : Nat) (w : World) : Calls Tryz.prog 49 #[.slice (some ad) 0 c] w fun e w' => e = .returned (.slice none 0 0) ∧ Below w.heap.size w w' := by
  refine callsIn_wide.1 (?_ : CallsIn Fence.wide 5 Tryz.prog 49 _ w _)
  refine callsIn_of_wp_marks Tryz.func49 rfl trivial ?_ rfl
  simp only [Tryz.ntmps49, List.size_toArray, List.length_cons, List.length_nil, Nat.reduceAdd, Nat.reduceSub, Array.replicate_succ, Array.replicate_zero, List.push_toArray, List.append_toArray, List.nil_append, List.cons_append]
  gi_wp2
  have h0 : Tryz.f49.results = #[.tmp 2] := by kernel_rfl
  exact ⟨_, by simp only [results, h0]; simp [Sem.run_bind, Sem.run_map, Sem.run_pure], rfl, Below.refl _ w⟩
/-- A list without numbers, copied: nil. -/
theorem list_none (o : Option Addr) (c : Nat) (w : World) (h : Rd 1 iF (.slice o 0 c) [] w) : Calls Tryz.prog 49 #[.slice o 0 c] w fun e w' => e = .returned (.slice none 0 0) ∧ Below w.heap.size w w' := by
  rcases h with ⟨h, _⟩ | ⟨ad, d, h, _⟩
  · rw [h]; exact list_nil 0 w
  · rw [h]; exact list_ext ad d w
theorem list_fam (A : List Int) (o : Option Addr) (c : Nat) (w : World) (hrd : Rd 1 iF (.slice o A.length c) A w) (hl : A.length ≤ 1000000) :
    Calls Tryz.prog 49 #[.slice o A.length c] w fun e w' => ∃ y : Option Addr × Nat, e = .returned (sV A.length y) ∧ Below w.heap.size w w' ∧ St w.heap.size (Rd 1 iF (sV A.length y) A) w' := by
  cases A with
  | nil =>
    exact (list_none o c w hrd).mono fun e w' ⟨h1, h2⟩ => ⟨(none, 0), h1, h2, fun _ _ => .inl ⟨rfl, rfl⟩⟩
  | cons a A =>
    exact (list_own (a :: A) o c w hrd (by simp) hl).mono fun e w' ⟨b, d, h1, h2, h3, h4⟩ => ⟨(some ⟨b, 0, none⟩, d), h1, h3, own_st (f := iF) (fun _ => rfl) h2 rfl h4⟩


/-- Lists that lie somewhere and say CC. -/
structure Rws (CC : List (List Int)) where
  o : Option Addr
  c : Nat
  C : List Rw
  h : C.map Rw.xs = CC
abbrev Rws.v {CC : List (List Int)} (y : Rws CC) : Value := .slice y.o y.C.length y.c
def Rws.In {CC : List (List Int)} (y : Rws CC) (w : World) : Prop := Rd 1 Rw.cs (.slice y.o y.C.length y.c) y.C w ∧ RR y.C w

set_option maxHeartbeats 1000000 in
set_option maxRecDepth 100000 in
theorem rows_ok (C : List Rw) (o : Option Addr) (c : Nat) (w : World) (hrd : Rd 1 Rw.cs (.slice o C.length c) C w) (hR : RR C w) (hl : C.length ≤ 1000000) (hrl : ∀ r ∈ C, r.xs.length ≤ 1000000) :
    Calls Tryz.prog 48 #[.slice o C.length c] w fun e w' => ∃ y : Rws (C.map Rw.xs), e = .returned y.v ∧ Below w.heap.size w w' ∧ St w.heap.size y.In w' := by
  refine calls_fam env mixed Tryz.func48 has48 Tryz.ntmps48 [.slice o C.length c] (by simp) ?_
  repeat'
   conv => whnf
   first
    | refine zA ?_ | refine zB ?_ | refine zC ?_ | refine zD ?_ | refine zE ?_ | refine zF ?_ | refine zG ?_ | refine zH ?_ | refine zJ ?_ | refine zI ?_ | refine splT ?_ | refine splF ?_ | refine splNot ?_
    | ((first | refine splIn (fun hc => ?_) (fun hc => ?_) | refine splD (fun hc => ?_) (fun hc => ?_) | refine splE (fun hc => ?_) (fun hc => ?_) | refine splNE (fun hc => ?_) (fun hc => ?_)) <;> first | (exfalso; omega) | (exfalso; dsimp only at hc; omega) | skip)
  refine loopH 2 (fun D : List Rw => [(0, .v (.slice o C.length c)), (3, oSV 0 1 D), (4, .v (iv D.length))]) (fun D => oM 0 1 1 Rw.cs 36 D)
    (fun D w' => Below w.heap.size w w' ∧ ∀ r ∈ D, St w.heap.size (Rd 1 iF (.slice r.o r.xs.length r.c) r.xs) w')
    (fun D => D.length ≤ C.length ∧ D.map Rw.xs = (C.map Rw.xs).take D.length) (fun D => C.length - D.length) [] ⟨Nat.zero_le _, rfl⟩ ⟨rfl, rfl, rfl, trivial⟩ trivial (fun w' h => ⟨h, fun r hr => by cases hr⟩) (fun D _ => by cases D <;> exact ⟨rfl, rfl⟩) ?_
  intro D ⟨hk, hmap⟩
  rcases Nat.lt_or_ge D.length C.length with hkl | hkl
  · obtain ⟨⟨ro, rc, xs⟩, hx⟩ : ∃ b, C[D.length]? = some b := ⟨_, List.getElem?_eq_getElem hkl⟩
    obtain ⟨_, ad, rfl, _⟩ := hrd.ptr (by omega)
    have e0 := fun (w' : World) hw' => rd_ati (hrd.below (w' := w') hw') hx
    have hr := hR _ (List.mem_of_getElem? hx)
    have hrb := hrl _ (List.mem_of_getElem? hx)
    change Rd 1 iF (.slice ro xs.length rc) xs w at hr
    dsimp only at hrb
    have hm : (C.map Rw.xs)[D.length]? = some xs := by rw [List.getElem?_map, hx]; rfl
    have hnew : ∀ y : Option Addr × Nat, (D ++ [(⟨y.1, y.2, xs⟩ : Rw)]).map Rw.xs = (C.map Rw.xs).take (D ++ [(⟨y.1, y.2, xs⟩ : Rw)]).length := fun y => by
      rw [List.map_append, hmap, List.length_append, List.length_singleton, List.take_add_one, hm]; rfl
    have hl2 : ∀ y : Option Addr × Nat, (D ++ [(⟨y.1, y.2, xs⟩ : Rw)]).length = D.length + 1 := fun y => by simp
    have hh : ∀ (y : Option Addr × Nat) w', ((Below w.heap.size w w' ∧ ∀ r ∈ D, St w.heap.size (Rd 1 iF (.slice r.o r.xs.length r.c) r.xs) w') ∧ St w.heap.size (Rd 1 iF (.slice y.1 xs.length y.2) xs) w') →
        Below w.heap.size w w' ∧ ∀ r ∈ D ++ [(⟨y.1, y.2, xs⟩ : Rw)], St w.heap.size (Rd 1 iF (.slice r.o r.xs.length r.c) r.xs) w' := fun y w' h => ⟨h.1.1, fun r hr => by
      rcases List.mem_append.1 hr with hr | hr
      · exact h.1.2 r hr
      · rw [List.mem_singleton] at hr; subst hr; exact h.2⟩
    generalize hn : D.length = n at *
    cases D with
    | nil =>
      repeat'
       conv => whnf
       first
        | refine zA ?_ | refine zB ?_ | refine zC ?_ | refine zD ?_ | refine zE ?_ | refine zF ?_ | refine zG ?_ | refine zH ?_ | refine zJ ?_ | refine zI ?_ | refine splT ?_ | refine splF ?_ | refine splNot ?_
        | ((first | refine splIn (fun hc => ?_) (fun hc => ?_) | refine splD (fun hc => ?_) (fun hc => ?_) | refine splE (fun hc => ?_) (fun hc => ?_) | refine splNE (fun hc => ?_) (fun hc => ?_)) <;> first | (exfalso; omega) | (exfalso; dsimp only at hc; omega) | skip)
        | refine Exists.intro (α := List Value) [.slice ro xs.length rc] ⟨⟨rfl, fun w' hw' => e0 w' hw'.1⟩, ?_⟩
        | ((with_reducible show CallEv _ _ 49 _ _ _ _ _); refine callF [] (fun y : Option Addr × Nat => sV xs.length y) (fun y => St w.heap.size (Rd 1 iF (.slice y.1 xs.length y.2) xs)) (fun β w' _ hbw => famS (by repeat (first | exact hbw | replace hbw := hbw.1)) (list_fam xs ro rc w' (hr.below (by repeat (first | exact hbw | replace hbw := hbw.1))) hrb)) ?_; intro y)
      exact ⟨[(⟨y.1, y.2, xs⟩ : Rw)], ⟨by have := hl2 y; simp only [List.nil_append] at this; omega, hnew y⟩, by have := hl2 y; simp only [List.nil_append] at this; omega, Ent.ren (rho [(0, 3), (1, 4)]) rfl rfl ⟨rfl, rfl, by rw [← hn]; rfl, trivial⟩ ⟨rfl, trivial⟩ (hh y)⟩
    | cons a D =>
      simp only [List.length_cons] at hn
      repeat'
       conv => whnf
       first
        | refine zA ?_ | refine zB ?_ | refine zC ?_ | refine zD ?_ | refine zE ?_ | refine zF ?_ | refine zG ?_ | refine zH ?_ | refine zJ ?_ | refine zI ?_ | refine splT ?_ | refine splF ?_ | refine splNot ?_
        | ((first | refine splIn (fun hc => ?_) (fun hc => ?_) | refine splD (fun hc => ?_) (fun hc => ?_) | refine splE (fun hc => ?_) (fun hc => ?_) | refine splNE (fun hc => ?_) (fun hc => ?_)) <;> first | (exfalso; omega) | (exfalso; dsimp only at hc; omega) | skip)
        | refine Exists.intro (α := List Value) [.slice ro xs.length rc] ⟨⟨rfl, fun w' hw' => e0 w' hw'.1⟩, ?_⟩
        | ((with_reducible show CallEv _ _ 49 _ _ _ _ _); refine callF [] (fun y : Option Addr × Nat => sV xs.length y) (fun y => St w.heap.size (Rd 1 iF (.slice y.1 xs.length y.2) xs)) (fun β w' _ hbw => famS (by repeat (first | exact hbw | replace hbw := hbw.1)) (list_fam xs ro rc w' (hr.below (by repeat (first | exact hbw | replace hbw := hbw.1))) hrb)) ?_; intro y)
      exact ⟨a :: D ++ [(⟨y.1, y.2, xs⟩ : Rw)], ⟨by have := hl2 y; omega, hnew y⟩, by have := hl2 y; omega, Ent.ren (rho [(0, 3), (1, 4)]) rfl rfl ⟨rfl, by simp [oSV]; rfl, by rw [← hn]; simp; rfl, trivial⟩ ⟨by simp [oM]; rfl, trivial⟩ (hh y)⟩
  · have hk2 : D.length = C.length := by omega
    rw [hk2, List.take_of_length_le (Nat.le_of_eq (List.length_map ..))] at hmap
    cases D with
    | nil =>
      repeat'
       conv => whnf
       first
        | refine zA ?_ | refine zB ?_ | refine zC ?_ | refine zD ?_ | refine zE ?_ | refine zF ?_ | refine zG ?_ | refine zH ?_ | refine zJ ?_ | refine zI ?_ | refine splT ?_ | refine splF ?_ | refine splNot ?_
        | ((first | refine splIn (fun hc => ?_) (fun hc => ?_) | refine splD (fun hc => ?_) (fun hc => ?_) | refine splE (fun hc => ?_) (fun hc => ?_) | refine splNE (fun hc => ?_) (fun hc => ?_)) <;> first | (exfalso; omega) | (exfalso; dsimp only at hc; omega) | skip)
      exact ⟨fun w' h => h.1, fun β w' hB hblk => ⟨⟨none, 0, [], hmap⟩, rfl, fun w2 k2 => ⟨.inl ⟨rfl, rfl⟩, fun r hr => by cases hr⟩⟩⟩
    | cons a L =>
      repeat'
       conv => whnf
       first
        | refine zA ?_ | refine zB ?_ | refine zC ?_ | refine zD ?_ | refine zE ?_ | refine zF ?_ | refine zG ?_ | refine zH ?_ | refine zJ ?_ | refine zI ?_ | refine splT ?_ | refine splF ?_ | refine splNot ?_
        | ((first | refine splIn (fun hc => ?_) (fun hc => ?_) | refine splD (fun hc => ?_) (fun hc => ?_) | refine splE (fun hc => ?_) (fun hc => ?_) | refine splNE (fun hc => ?_) (fun hc => ?_)) <;> first | (exfalso; omega) | (exfalso; dsimp only at hc; omega) | skip)
      refine ⟨fun w' h => h.1, fun β w' hB hblk => ?_⟩
      obtain ⟨y, h1, h2⟩ := oEnd (sz := 1) (f := Rw.cs) (fun _ => rfl) a L (hblk 0 _ rfl rfl)
      exact ⟨⟨y.1, y.2, a :: L, hmap⟩, h1, fun w2 k2 => ⟨h2 w2 k2, fun r hr => hB.2 r hr w2 k2⟩⟩

end Go.Proofs.YtkbfcofifhngfaaGreat
