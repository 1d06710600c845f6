/- The least table, the bound, fees, by the reference; whether two tables are the same: what Table, Bound, Fees, tables, list return. -/
import Derived.Test.YthfabodamhdhaaaTN
import Derived.Test.YthfabodamhdhaaaTG
import Derived.Maps.AppendAt
namespace Go.Proofs.Ythfabodamhdhaaa
open Go Tx Go.RowKit
set_option linter.unusedSimpArgs false
set_option linter.unusedVariables false

theorem one1 (A : List Int) : ∀ v ∈ A.flatMap iF, v.oneCell' = true := fun v hv => by
  obtain ⟨a, _, ha⟩ := List.mem_flatMap.1 hv
  rw [List.mem_singleton.1 ha]; rfl
set_option maxRecDepth 100000 in
theorem list_own (A : List Int) (o : Option Addr) (c : Nat) (w : World) (hrd : Rd 1 iF (.slice o A.length c) A w) (h0 : A ≠ []) (hl : A.length ≤ 1000000) :
    Calls Try.prog 29 #[.slice o A.length c] w fun e w' => ∃ b d, e = .returned (.slice (some ⟨b, 0, none⟩) A.length d) ∧ w.heap.size ≤ b ∧ Below w.heap.size w w' ∧ w'.ownsRow 0 3 1 (.slice (some ⟨b, 0, none⟩) A.length d) A.length (A.flatMap iF) := by
  refine calls_fam2 env mixed Try.func29 has29 Try.ntmps29 [.slice o A.length c] (by simp) ?_
  have hp : 1 ≤ A.length := by cases A with | nil => exact absurd rfl h0 | cons a A => simp
  obtain ⟨_, ad, rfl, _⟩ := hrd.ptr hp
  have he := fun (w' : World) (hb : Below w.heap.size w w') => Rd.ext (f := iF) (sz := 1) (fun _ => rfl) (hrd.below hb)
  have hln : (A.flatMap iF).length = A.length * 1 := by rw [lenF, Nat.mul_one]
  have hon := one1 A
  generalize A.flatMap iF = X at *
  generalize A.length = n at *
  repeat'
   conv => whnf
   first
    | refine zA ?_ | refine zB ?_ | refine zC ?_ | refine zD ?_ | refine zE ?_ | refine zF ?_ | refine zG ?_ | refine zH ?_ | refine zJ ?_ | refine zI ?_ | refine splT ?_ | refine splF ?_ | refine splNot ?_
    | ((first | refine splIn (fun hc => ?_) (fun hc => ?_) | refine splD (fun hc => ?_) (fun hc => ?_) | refine splE (fun hc => ?_) (fun hc => ?_) | refine splNE (fun hc => ?_) (fun hc => ?_)) <;> first | (exfalso; omega) | (exfalso; dsimp only at hc; omega) | skip)
    | refine Exists.intro (α := List Value) X ⟨⟨hln, fun w' hw' => he w' hw', hon⟩, ?_⟩
  have hz : 0 + n = n := Nat.zero_add n
  exact ⟨fun w' h => h, fun β w' hB hB2 hblk => ⟨β 0, β 1, congrArg (fun z => Ending.returned (.slice (some ⟨β 0, 0, none⟩) z (β 1))) hz, (hblk 0 _ rfl rfl).1, hB2, by have := (hblk 0 _ rfl rfl).2; simp only [Blk.ok, List.nil_append, hz] at this; exact this⟩⟩
set_option maxRecDepth 100000 in
theorem list_ext (ad : Addr) (c : Nat) (w : World) : Calls Try.prog 29 #[.slice (some ad) 0 c] w fun e w' => e = .returned (.slice none 0 0) ∧ Below w.heap.size w w' := by
  refine callsIn_wide.1 (?_ : CallsIn Fence.wide 5 Try.prog 29 _ w _)
  refine callsIn_of_wp_marks Try.func29 rfl trivial ?_ rfl
  simp only [Try.ntmps29, List.size_toArray, List.length_cons, List.length_nil, Nat.reduceAdd, Nat.reduceSub, Array.replicate_succ, Array.replicate_zero, List.push_toArray, List.append_toArray, List.nil_append, List.cons_append]
  gi_wp2
  have h0 : Try.f29.results = #[.tmp 2] := by kernel_rfl
  exact ⟨_, by simp only [results, h0]; simp [Sem.run_bind, Sem.run_map, Sem.run_pure], rfl, Below.refl _ w⟩
/-- A list without numbers, copied: nil. -/
theorem list_none (o : Option Addr) (c : Nat) (w : World) (h : Rd 1 iF (.slice o 0 c) [] w) : Calls Try.prog 29 #[.slice o 0 c] w fun e w' => e = .returned (.slice none 0 0) ∧ Below w.heap.size w w' := by
  rcases h with ⟨h, _⟩ | ⟨ad, d, h, _⟩
  · rw [h]
    refine calls_val env mixed Try.func29 has29 Try.ntmps29 [.slice none 0 0] (by simp) ?_
    repeat'
     conv => whnf
     first
      | refine zA ?_ | refine zB ?_ | refine zC ?_ | refine zD ?_ | refine zE ?_ | refine zF ?_ | refine zG ?_ | refine zH ?_ | refine zJ ?_ | refine zI ?_ | refine splT ?_ | refine splF ?_ | refine splNot ?_
      | ((first | refine splIn (fun hc => ?_) (fun hc => ?_) | refine splD (fun hc => ?_) (fun hc => ?_) | refine splE (fun hc => ?_) (fun hc => ?_) | refine splNE (fun hc => ?_) (fun hc => ?_)) <;> first | (exfalso; omega) | (exfalso; dsimp only at hc; omega) | skip)
    all_goals first | (exfalso; omega) | exact ⟨fun β => rfl, fun w' h => h⟩
  · rw [h]; exact list_ext ad d w
/-- A list, copied. -/
theorem list_ok (A : List Int) (o : Option Addr) (c : Nat) (w : World) (hrd : Rd 1 iF (.slice o A.length c) A w) (hl : A.length ≤ 1000000) :
    Calls Try.prog 29 #[.slice o A.length c] w fun e w' => ∃ y : Option Addr × Nat, e = .returned (sV A.length y) ∧ Below w.heap.size w w' ∧ St w.heap.size (Rd 1 iF (sV A.length y) A) w' := by
  cases A with
  | nil => exact (list_none o c w hrd).mono fun e w' ⟨h1, h2⟩ => ⟨(none, 0), h1, h2, fun _ _ => .inl ⟨rfl, rfl⟩⟩
  | cons a A => exact (list_own (a :: A) o c w hrd (by simp) hl).mono fun e w' ⟨b, d, h1, h2, h3, h4⟩ => ⟨(some ⟨b, 0, none⟩, d), h1, h3, rows_st (f := iF) (fun _ => rfl) rfl rfl h2 h4⟩
set_option maxHeartbeats 1000000 in
set_option maxRecDepth 100000 in
theorem rfees_ok (x : Tr) (o : Option Addr) (c : Nat) (F : List Int) (w : World) (hF : Rd 1 iF (.slice o F.length c) F w) (hl : F.length ≤ 1000000) (hT : 1 ≤ x.T.length) :
    Calls Try.prog 30 #[x.v, .slice o F.length c] w fun e w' => e = .returned (.bool (feB x.T.length F)) ∧ Below w.heap.size w w' := by
  obtain ⟨days, shift, size, to, tc, T, lo, lc, L⟩ := x
  dsimp only at hT ⊢
  refine calls_val env mixed Try.func30 has30 Try.ntmps30 [.agg #[iv days, iv shift, iv size, .slice to T.length tc, .slice lo L.length lc], .slice o F.length c] (by simp) ?_
  repeat'
   conv => whnf
   first
    | refine zA ?_ | refine zB ?_ | refine zC ?_ | refine zD ?_ | refine zE ?_ | refine zF ?_ | refine zG ?_ | refine zH ?_ | refine zJ ?_ | refine zI ?_ | refine splT ?_ | refine splF ?_ | refine splNot ?_
    | ((first | refine splIn (fun hc => ?_) (fun hc => ?_) | refine splD (fun hc => ?_) (fun hc => ?_) | refine splE (fun hc => ?_) (fun hc => ?_) | refine splNE (fun hc => ?_) (fun hc => ?_)) <;> first | (exfalso; omega) | (exfalso; dsimp only at hc; omega) | skip)
  refine loopE (fun k : Nat => [(1, .v (.slice o F.length c)), (2, .ptr 0 0), (5, .v (iv k))]) (fun _ => [(0, .cells [.v (iv days), .v (iv shift), .v (iv size), .v (.slice to T.length tc), .v (.slice lo L.length lc)] 25)]) (fun k => k ≤ F.length ∧ ((F.take k).all fun n : Int => inB n 0 1000000000) = true) (fun k => F.length - k) 0 ⟨Nat.zero_le _, rfl⟩ ⟨rfl, rfl, rfl, trivial⟩ ⟨rfl, trivial⟩ (fun _ => ⟨rfl, rfl⟩) ?_
  intro k ⟨hk, hall⟩
  rcases Nat.lt_or_ge k F.length with hkl | hkl
  · obtain ⟨f, hf⟩ : ∃ f, F[k]? = some f := ⟨_, List.getElem?_eq_getElem hkl⟩
    obtain ⟨_, ad, rfl, _⟩ := hF.ptr (by omega)
    have e0 := fun (w' : World) hw' => rd_ati (hF.below (w' := w') hw') hf
    have hat := all_take (p := fun n : Int => inB n 0 1000000000) hf
    have hno := all_no (p := fun n : Int => inB n 0 1000000000) hf
    rw [hall, Bool.true_and] at hat
    have h37 := fun w' : World => In_ok f 0 1000000000 w'
    obtain ⟨v, hv⟩ : ∃ v, inB f 0 1000000000 = v := ⟨_, rfl⟩
    rw [hv] at hat hno h37
    cases v with
    | true =>
      repeat'
       conv => whnf
       first
        | refine zA ?_ | refine zB ?_ | refine zC ?_ | refine zD ?_ | refine zE ?_ | refine zF ?_ | refine zG ?_ | refine zH ?_ | refine zJ ?_ | refine zI ?_ | refine splT ?_ | refine splF ?_ | refine splNot ?_
        | ((first | refine splIn (fun hc => ?_) (fun hc => ?_) | refine splD (fun hc => ?_) (fun hc => ?_) | refine splE (fun hc => ?_) (fun hc => ?_) | refine splNE (fun hc => ?_) (fun hc => ?_)) <;> first | (exfalso; omega) | (exfalso; dsimp only at hc; omega) | skip)
        | refine Exists.intro (α := List Value) [iv f] ⟨⟨rfl, fun w' hw' => e0 w' hw'⟩, ?_⟩
        | ((with_reducible show CallEv _ _ 37 _ _ _ _ _); refine callE (k := 37) (fun β w' hbw => h37 w') ?_)
      all_goals first | (exfalso; omega) | exact ⟨k + 1, ⟨by omega, hat⟩, by omega, Ent.weak rfl ⟨rfl, rfl, rfl, trivial⟩ ⟨rfl, trivial⟩ fun _ h => h⟩
    | false =>
      have hz : feB T.length F = false := by unfold feB; rw [hno rfl, Bool.and_false, Bool.and_false]
      rw [hz]
      repeat'
       conv => whnf
       first
        | refine zA ?_ | refine zB ?_ | refine zC ?_ | refine zD ?_ | refine zE ?_ | refine zF ?_ | refine zG ?_ | refine zH ?_ | refine zJ ?_ | refine zI ?_ | refine splT ?_ | refine splF ?_ | refine splNot ?_
        | ((first | refine splIn (fun hc => ?_) (fun hc => ?_) | refine splD (fun hc => ?_) (fun hc => ?_) | refine splE (fun hc => ?_) (fun hc => ?_) | refine splNE (fun hc => ?_) (fun hc => ?_)) <;> first | (exfalso; omega) | (exfalso; dsimp only at hc; omega) | skip)
        | refine Exists.intro (α := List Value) [iv f] ⟨⟨rfl, fun w' hw' => e0 w' hw'⟩, ?_⟩
        | ((with_reducible show CallEv _ _ 37 _ _ _ _ _); refine callE (k := 37) (fun β w' hbw => h37 w') ?_)
      all_goals first | (exfalso; omega) | exact ⟨fun β => rfl, fun w' h => h⟩
  · rw [List.take_of_length_le hkl] at hall
    unfold feB
    rw [hall, Bool.and_true]
    by_cases hn : F.length = T.length
    · obtain ⟨f0, hf0⟩ : ∃ f, F[0]? = some f := ⟨_, List.getElem?_eq_getElem (by omega)⟩
      obtain ⟨_, ad, rfl, _⟩ := hF.ptr (by omega)
      have e0 := fun (w' : World) hw' => rd_atz (hF.below (w' := w') hw') hf0 (0 : Int) rfl
      rw [decide_eq_true hn, Bool.true_and, hf0]
      by_cases h0 : f0 = 0
      · subst h0
        rw [decide_eq_true rfl]
        repeat'
         conv => whnf
         first
          | refine zA ?_ | refine zB ?_ | refine zC ?_ | refine zD ?_ | refine zE ?_ | refine zF ?_ | refine zG ?_ | refine zH ?_ | refine zJ ?_ | refine zI ?_ | refine splT ?_ | refine splF ?_ | refine splNot ?_
          | ((first | refine splIn (fun hc => ?_) (fun hc => ?_) | refine splD (fun hc => ?_) (fun hc => ?_) | refine splE (fun hc => ?_) (fun hc => ?_) | refine splNE (fun hc => ?_) (fun hc => ?_)) <;> first | (exfalso; omega) | (exfalso; dsimp only at hc; omega) | skip)
          | refine Exists.intro (α := List Value) [iv 0] ⟨⟨rfl, fun w' hw' => e0 w' hw'⟩, ?_⟩
        all_goals first | (exfalso; omega) | exact ⟨fun β => rfl, fun w' h => h⟩
      · rw [decide_eq_false (by simpa using h0)]
        repeat'
         conv => whnf
         first
          | refine zA ?_ | refine zB ?_ | refine zC ?_ | refine zD ?_ | refine zE ?_ | refine zF ?_ | refine zG ?_ | refine zH ?_ | refine zJ ?_ | refine zI ?_ | refine splT ?_ | refine splF ?_ | refine splNot ?_
          | ((first | refine splIn (fun hc => ?_) (fun hc => ?_) | refine splD (fun hc => ?_) (fun hc => ?_) | refine splE (fun hc => ?_) (fun hc => ?_) | refine splNE (fun hc => ?_) (fun hc => ?_)) <;> first | (exfalso; omega) | (exfalso; dsimp only at hc; omega) | skip)
          | refine Exists.intro (α := List Value) [iv f0] ⟨⟨rfl, fun w' hw' => e0 w' hw'⟩, ?_⟩
        all_goals first | (exfalso; omega) | exact ⟨fun β => congrArg Value.bool (by simp [*]), fun w' h => h⟩
    · rw [decide_eq_false hn, Bool.false_and]
      repeat'
       conv => whnf
       first
        | refine zA ?_ | refine zB ?_ | refine zC ?_ | refine zD ?_ | refine zE ?_ | refine zF ?_ | refine zG ?_ | refine zH ?_ | refine zJ ?_ | refine zI ?_ | refine splT ?_ | refine splF ?_ | refine splNot ?_
        | ((first | refine splIn (fun hc => ?_) (fun hc => ?_) | refine splD (fun hc => ?_) (fun hc => ?_) | refine splE (fun hc => ?_) (fun hc => ?_) | refine splNE (fun hc => ?_) (fun hc => ?_)) <;> first | (exfalso; omega) | (exfalso; dsimp only at hc; omega) | skip)
      all_goals first | (exfalso; omega) | exact ⟨fun β => rfl, fun w' h => h⟩
set_option maxHeartbeats 1000000 in
set_option maxRecDepth 100000 in
theorem rbound_ok (o : Option Addr) (c : Nat) (F : List Int) (to : Option Addr) (tc : Nat) (R : List Iw) (r : Iw) (z : Int) (w : World) (hF : Rd 1 iF (.slice o F.length c) F w) (hl : F.length ≤ 100) (hb : ∀ f ∈ F, 0 ≤ f ∧ f ≤ 1000000000)
    (hR : Rd 1 Iw.cs (.slice to R.length tc) R w) (hr : R[0]? = some r) (hrd : Rd 1 iF (.slice r.o r.xs.length r.c) r.xs w) (hz : r.xs[0]? = some z) (hzb : -5000000000000 ≤ z ∧ z ≤ 5000000000000) (hRl : R.length ≤ 1000000) (hrl : r.xs.length ≤ 1000000) :
    Calls Try.prog 32 #[.slice o F.length c, .slice to R.length tc] w fun e w' => e = .returned (iv (smO F z)) ∧ Below w.heap.size w w' := by
  obtain ⟨ro, rc, xs⟩ := r
  dsimp only at hrd hz hrl
  have h1 := (List.getElem?_eq_some_iff.1 hr).1
  have h2 := (List.getElem?_eq_some_iff.1 hz).1
  obtain ⟨_, ta, rfl, _⟩ := hR.ptr (by omega)
  obtain ⟨_, ra, rfl, _⟩ := hrd.ptr (by omega)
  have e0 := fun (w' : World) hw' => rd_atz (hR.below (w' := w') hw') hr (0 : Int) rfl
  have e1 := fun (w' : World) hw' => rd_atz (hrd.below (w' := w') hw') hz (0 : Int) rfl
  refine calls_val env mixed Try.func32 has32 Try.ntmps32 [.slice o F.length c, .slice (some ta) R.length tc] (by simp) ?_
  repeat'
   conv => whnf
   first
    | refine zA ?_ | refine zB ?_ | refine zC ?_ | refine zD ?_ | refine zE ?_ | refine zF ?_ | refine zG ?_ | refine zH ?_ | refine zJ ?_ | refine zI ?_ | refine splT ?_ | refine splF ?_ | refine splNot ?_
    | ((first | refine splIn (fun hc => ?_) (fun hc => ?_) | refine splD (fun hc => ?_) (fun hc => ?_) | refine splE (fun hc => ?_) (fun hc => ?_) | refine splNE (fun hc => ?_) (fun hc => ?_)) <;> first | (exfalso; omega) | (exfalso; dsimp only at hc; omega) | skip)
    | refine Exists.intro (α := List Value) [.slice (some ra) xs.length rc] ⟨⟨rfl, fun w' hw' => e0 w' hw'⟩, ?_⟩
    | refine Exists.intro (α := List Value) [iv z] ⟨⟨rfl, fun w' hw' => e1 w' hw'⟩, ?_⟩
  all_goals first | (exfalso; omega) | skip
  refine loopE (fun i : Nat => [(0, .v (.slice o F.length c)), (5, .v (iv (smO (F.take i) z))), (6, .v (iv i))]) (fun _ => []) (fun i => i ≤ F.length) (fun i => F.length - i) 0 (Nat.zero_le _) ⟨rfl, rfl, rfl, trivial⟩ trivial (fun _ => ⟨rfl, rfl⟩) ?_
  intro i hi
  have hbi := smO_bd (F.take i) z (fun f hf => hb f (List.mem_of_mem_take hf))
  have hti : (F.take i).length ≤ 100 := by rw [List.length_take]; omega
  rcases Nat.lt_or_ge i F.length with hil | hil
  · obtain ⟨f, hf⟩ : ∃ f, F[i]? = some f := ⟨_, List.getElem?_eq_getElem hil⟩
    obtain ⟨_, ad, rfl, _⟩ := hF.ptr (by omega)
    have e2 := fun (w' : World) hw' => rd_ati (hF.below (w' := w') hw') hf
    have hfb := hb f (List.mem_of_getElem? hf)
    have hs : smO (F.take (i + 1)) z = smO (F.take i) z + f := by rw [List.take_add_one, hf]; exact smO_snoc f _ z
    generalize smO (F.take i) z = N at *
    repeat'
     conv => whnf
     first
      | refine zA ?_ | refine zB ?_ | refine zC ?_ | refine zD ?_ | refine zE ?_ | refine zF ?_ | refine zG ?_ | refine zH ?_ | refine zJ ?_ | refine zI ?_ | refine splT ?_ | refine splF ?_ | refine splNot ?_
      | ((first | refine splIn (fun hc => ?_) (fun hc => ?_) | refine splD (fun hc => ?_) (fun hc => ?_) | refine splE (fun hc => ?_) (fun hc => ?_) | refine splNE (fun hc => ?_) (fun hc => ?_)) <;> first | (exfalso; omega) | (exfalso; dsimp only at hc; omega) | skip)
      | refine Exists.intro (α := List Value) [iv f] ⟨⟨rfl, fun w' hw' => e2 w' hw'⟩, ?_⟩
    all_goals first | (exfalso; omega) | exact ⟨i + 1, by omega, by omega, Ent.weak rfl ⟨rfl, by rw [hs]; rfl, rfl, trivial⟩ trivial fun _ h => h⟩
  · rw [List.take_of_length_le hil]
    repeat'
     conv => whnf
     first
      | refine zA ?_ | refine zB ?_ | refine zC ?_ | refine zD ?_ | refine zE ?_ | refine zF ?_ | refine zG ?_ | refine zH ?_ | refine zJ ?_ | refine zI ?_ | refine splT ?_ | refine splF ?_ | refine splNot ?_
      | ((first | refine splIn (fun hc => ?_) (fun hc => ?_) | refine splD (fun hc => ?_) (fun hc => ?_) | refine splE (fun hc => ?_) (fun hc => ?_) | refine splNE (fun hc => ?_) (fun hc => ?_)) <;> first | (exfalso; omega) | (exfalso; dsimp only at hc; omega) | skip)
    all_goals first | (exfalso; omega) | exact ⟨fun β => rfl, fun w' h => h⟩
/-- The table's row while rows are made. -/
def rtV (nd n : Nat) (D : List (Nat × Nat)) : List Value := (D.map fun p => Value.slice (some ⟨p.1, 0, none⟩) (nd + 1) p.2) ++ List.replicate (n - D.length) (.slice none 0 0)
theorem rtV_nil (nd n : Nat) : rtV nd n [] = (List.replicate n [Value.slice none 0 0]).flatten := by
  simp only [rtV, List.map_nil, List.nil_append, List.length_nil, Nat.sub_zero]
  induction n with
  | zero => rfl
  | succ n ih => rw [List.replicate_succ, List.replicate_succ, List.flatten_cons, ← ih]; rfl
theorem rtV_len {nd n : Nat} {D : List (Nat × Nat)} (h : D.length ≤ n) : (rtV nd n D).length = n := by simp [rtV]; omega
theorem rtV_set {nd n : Nat} {D : List (Nat × Nat)} (p : Nat × Nat) (h : D.length < n) : (rtV nd n D).set D.length (.slice (some ⟨p.1, 0, none⟩) (nd + 1) p.2) = rtV nd n (D ++ [p]) := by
  simp only [rtV, List.map_append, List.map_cons, List.map_nil, List.length_append, List.length_singleton]
  rw [List.set_append_right _ _ (by simp), List.length_map, Nat.sub_self, show n - D.length = (n - (D.length + 1)) + 1 from by omega, List.replicate_succ, List.set_cons_zero, List.append_assoc]
  rfl
theorem rt_conv {nd n : Nat} {D : List (Nat × Nat)} {p : Nat × Nat} {β : Nat → Nat} {w : World} {y i j k l : Nat} (hl : D.length < n) (hb : p.1 = β k) (hc : p.2 = β l) (h : (Blk.mix j n 1 [] (((rtV nd n D).map SV.v).set ((D.length : Int).toNat * ti43.size) (.os k l (nd + 1))) 43).ok β w y) :
    (Blk.mix j n 1 [] ((rtV nd n (D ++ [p])).map SV.v) 43).ok (fun i => β (id i)) w y := by
  have e : (D.length : Int).toNat * ti43.size = D.length := by rw [Int.toNat_natCast]; exact Nat.mul_one _
  rw [e] at h
  simp only [Blk.ok, cs_v, cs_set] at h ⊢
  rw [← rtV_set p hl, hb, hc]
  exact h
set_option maxHeartbeats 8000000 in
set_option maxRecDepth 100000 in
theorem rtable_ok (x : Tr) (fo : Option Addr) (fc : Nat) (F : List Int) (w : World) (h : TrIn x w) (hF : Rd 1 iF (.slice fo F.length fc) F w) (hb1 : toB x.d = true) (hb2 : feB x.T.length F = true) :
    Calls Try.prog 31 #[x.v, .slice fo F.length fc] w fun e w' => ∃ y : TbG, e = .returned y.v ∧ Below w.heap.size w w' ∧ St w.heap.size (fun w2 => TbIn w.heap.size (x.days.toNat + 1) y (tabO x.d F) w2 ∧ y.D.length = x.T.length) w' := by
  obtain ⟨hFl, hFb⟩ := feB_n hb2
  have hn := toB_n hb1
  have hday := hn.d
  have hnT := hn.n
  have hTS := fun k => tabK_s hn hFb k
  obtain ⟨days, shift, size, to, tc, T, lo, lc, L⟩ := x
  dsimp only [Tr.d] at hday hnT
  dsimp only at hFl
  simp only [List.length_map] at hnT
  have hnd : ∃ nd : Nat, days = nd := ⟨days.toNat, by omega⟩
  obtain ⟨nd, rfl⟩ := hnd
  have hmS : (Tr.d ⟨(nd : Int), shift, size, to, tc, T, lo, lc, L⟩).T.length = T.length := List.length_map ..
  obtain ⟨_, fa, rfl, _⟩ := hF.ptr (by omega)
  dsimp only
  rw [Int.toNat_natCast]
  refine calls_fam2V env mixed Try.func31 has31 Try.ntmps31 [.agg #[iv nd, iv shift, iv size, .slice to T.length tc, .slice lo L.length lc], .slice (some fa) F.length fc] (by simp) ?_
  have hz0 : ∀ xs, xs ∈ tabK (Tr.d ⟨(nd : Int), shift, size, to, tc, T, lo, lc, L⟩) F 0 → xs = List.replicate (nd + 1) (0 : Int) := fun xs hxs => by
    rw [tabK] at hxs
    exact List.eq_of_mem_replicate hxs
  have hC0l : (tabK (Tr.d ⟨(nd : Int), shift, size, to, tc, T, lo, lc, L⟩) F 0).length = T.length := by rw [tabK, List.length_replicate]; exact hmS
  refine VC.cutD env mixed 3 1 (fun y : TbG => [(1, .v (.slice (some fa) F.length fc)), (2, .ptr 0 0), (5, .v (.slice (some ⟨y.o, 0, none⟩) T.length y.c))]) (fun _ => [(0, .cells [.v (iv nd), .v (iv shift), .v (iv size), .v (.slice to T.length tc), .v (.slice lo L.length lc)] 25)]) (fun y w2 => Below w.heap.size w w2 ∧ TbIn w.heap.size (nd + 1) y (tabK (Tr.d ⟨(nd : Int), shift, size, to, tc, T, lo, lc, L⟩) F 0) w2) (fun y => y.D.length = T.length) (fun _ _ => ⟨rfl, rfl⟩) ?_ ?_
  · skip
    repeat'
     conv => whnf
     first
      | refine zA ?_ | refine zB ?_ | refine zC ?_ | refine zD ?_ | refine zE ?_ | refine zF ?_ | refine zG ?_ | refine zH ?_ | refine zJ ?_ | refine zI ?_ | refine splT ?_ | refine splF ?_ | refine splNot ?_
      | ((first | refine splIn (fun hc => ?_) (fun hc => ?_) | refine splD (fun hc => ?_) (fun hc => ?_) | refine splE (fun hc => ?_) (fun hc => ?_) | refine splNE (fun hc => ?_) (fun hc => ?_)) <;> first | (exfalso; omega) | (exfalso; dsimp only at hc; omega) | skip)
      | refine mkO env 1 T.length (rtV nd T.length []) rfl rfl rfl (by decide) rfl (by omega) (by decide) (rtV_nil _ _) rfl ?_
    all_goals first | (exfalso; omega) | skip
    refine loopD 3 (fun D : List (Nat × Nat) => [(1, .v (.slice (some fa) F.length fc)), (2, .ptr 0 0), (5, .os 1 2 T.length), (6, .v (iv D.length))]) (fun D => [(0, .cells [.v (iv nd), .v (iv shift), .v (iv size), .v (.slice to T.length tc), .v (.slice lo L.length lc)] 25), (1, .mix 2 T.length 1 [] ((rtV nd T.length D).map SV.v) 43)]) (fun D w' => Below w.heap.size w w' ∧ ∀ p ∈ D, w.heap.size ≤ p.1 ∧ w'.ownsRow 0 3 1 (.slice (some ⟨p.1, 0, none⟩) (nd + 1) p.2) (nd + 1) ((List.replicate (nd + 1) (0 : Int)).flatMap iF)) (fun D => D.length ≤ T.length ∧ (D.map Prod.fst).Nodup) (fun D => T.length - D.length)
      (Dis.mk5 (w0 := w) id [] (by exact trivial) (fun i hi => by cases hi) (fun w' h => h) (fun β w1 hok hw1 hge hne hij => ⟨[], ⟨Nat.zero_le _, List.nodup_nil⟩, ⟨⟨_, rfl, rfl⟩, ⟨_, rfl, rfl⟩, ⟨_, rfl, rfl⟩, ⟨_, rfl, rfl⟩, trivial⟩, ⟨⟨rfl, _, rfl, fun _ => rfl, fun w2 y hy => hy⟩, ⟨rfl, _, rfl, fun _ => rfl, fun w2 y hy => by simp only [Blk.ok, cs_v] at hy ⊢; exact hy⟩, trivial⟩, rfl, fun w2 hw2 _ => ⟨hw2, fun a r => by cases r⟩⟩))
      (fun D hD => ⟨rfl, by simp only [mB, Blk.lt, lts_v]; rfl⟩) ?_
    intro D ⟨hk, hnd⟩
    rcases Nat.lt_or_ge D.length T.length with hkl | hkl
    · have hVl := rtV_len (nd := nd) hk
      have hcell : ∀ q ∈ D, ∀ w', (Below w.heap.size w w' ∧ ∀ p ∈ D, w.heap.size ≤ p.1 ∧ w'.ownsRow 0 3 1 (.slice (some ⟨p.1, 0, none⟩) (nd + 1) p.2) (nd + 1) ((List.replicate (nd + 1) (0 : Int)).flatMap iF)) → ∃ cs ty fr, w'.heap[q.1]? = some (.cells cs ty fr) := fun q hq w' hw' => by
        obtain ⟨cur, hc⟩ := own_heap (hw'.2 q hq).2
        exact ⟨cur, _, _, hc⟩
      have hnew : ∀ p : Nat × Nat, (∀ q ∈ D, p.1 ≠ q.1) → ((D ++ [p]).map Prod.fst).Nodup := fun p hp => by
        rw [List.map_append, List.nodup_append]
        refine ⟨hnd, by simp, fun a ha b hb e => ?_⟩
        obtain ⟨r, hr, rfl⟩ := List.mem_map.1 ha
        simp only [List.map_cons, List.map_nil, List.mem_singleton] at hb
        exact hp r hr (e.trans hb).symm
      have hl2 : ∀ p : Nat × Nat, (D ++ [p]).length = D.length + 1 := fun p => by simp
      repeat'
       conv => whnf
       first
        | refine zA ?_ | refine zB ?_ | refine zC ?_ | refine zD ?_ | refine zE ?_ | refine zF ?_ | refine zG ?_ | refine zH ?_ | refine zJ ?_ | refine zI ?_ | refine splT ?_ | refine splF ?_ | refine splNot ?_
        | ((first | refine splIn (fun hc => ?_) (fun hc => ?_) | refine splD (fun hc => ?_) (fun hc => ?_) | refine splE (fun hc => ?_) (fun hc => ?_) | refine splNE (fun hc => ?_) (fun hc => ?_)) <;> first | (exfalso; omega) | (exfalso; dsimp only at hc; omega) | skip)
        | refine mkO env 3 (nd + 1) ((List.replicate (nd + 1) (0 : Int)).flatMap iF) rfl rfl rfl (by decide) rfl (by omega) (by decide) (zr_flat _) rfl ?_
        | refine Tx.stM env (.os 3 4 (nd + 1)) rfl rfl rfl rfl rfl rfl rfl (by rw [List.length_map, hVl, Int.toNat_natCast]; show D.length * 1 < _; omega) rfl rfl (lts_v _ _) rfl ?_
      all_goals first | (exfalso; omega) | skip
      refine Dis.mk5 (w0 := w) id [3] (by exact trivial) (fun i hi => by rw [List.mem_singleton] at hi; subst hi; exact ⟨_, rfl, rfl⟩) (fun w' h => h.1) (fun β w1 hok hw1 hge hne hij => ⟨D ++ [(β 3, β 4)], ⟨⟨by have := hl2 (β 3, β 4); omega, hnew (β 3, β 4) fun q hq => hne 3 _ q.1 rfl rfl (fun w' hw' => hcell q hq w' hw')⟩, by have := hl2 (β 3, β 4); omega⟩, ⟨⟨_, rfl, rfl⟩, ⟨_, rfl, rfl⟩, ⟨_, rfl, rfl⟩, ⟨_, rfl, by rw [hl2 (β 3, β 4)]; rfl⟩, trivial⟩,
        ⟨⟨rfl, _, rfl, fun _ => rfl, fun w2 y hy => hy⟩, ⟨rfl, _, rfl, fun _ => rfl, fun w2 y hy => rt_conv (i := 0) hkl rfl rfl hy⟩, trivial⟩, rfl, fun w2 hw2 hLo => ⟨hw2.1, fun r hr => by
          rcases List.mem_append.1 hr with hr | hr
          · exact hw2.2 r hr
          · rw [List.mem_singleton] at hr; subst hr; exact ⟨hge 3 _ rfl rfl, hLo 3 (by simp) _ rfl⟩⟩⟩)
    · have hDn : D.length = T.length := by omega
      repeat'
       conv => whnf
       first
        | refine zA ?_ | refine zB ?_ | refine zC ?_ | refine zD ?_ | refine zE ?_ | refine zF ?_ | refine zG ?_ | refine zH ?_ | refine zJ ?_ | refine zI ?_ | refine splT ?_ | refine splF ?_ | refine splNot ?_
        | ((first | refine splIn (fun hc => ?_) (fun hc => ?_) | refine splD (fun hc => ?_) (fun hc => ?_) | refine splE (fun hc => ?_) (fun hc => ?_) | refine splNE (fun hc => ?_) (fun hc => ?_)) <;> first | (exfalso; omega) | (exfalso; dsimp only at hc; omega) | skip)
      all_goals first | (exfalso; omega) | skip
      refine ⟨rfl, Dis.mk5 (w0 := w) id [1] (by exact trivial) (fun i hi => by rw [List.mem_singleton] at hi; subst hi; exact ⟨_, rfl, rfl⟩) (fun w' h => h.1) (fun β w1 hok hw1 hge hne hij => ⟨⟨β 1, β 2, D⟩, hDn, ⟨⟨_, rfl, rfl⟩, ⟨_, rfl, rfl⟩, ⟨_, rfl, rfl⟩, trivial⟩, ⟨⟨rfl, _, rfl, fun _ => rfl, fun w2 y hy => hy⟩, trivial⟩, rfl, fun w2 hw2 hLo => ⟨hw2.1, ?_⟩⟩)⟩
      have ho := hLo 1 (by simp) _ rfl
      simp only [Blk.ok, cs_v, rtV, hDn, Nat.sub_self, List.replicate_zero, List.append_nil, List.nil_append] at ho
      refine ⟨by rw [hC0l]; exact hDn.symm, fun r hr => by rw [hz0 r hr, List.length_replicate], by rw [hDn]; exact ho, fun i p xs h1 h2 => ?_, hnd, fun p hp => ⟨(hw2.2 p hp).1, fun e => hne 1 _ p.1 rfl rfl (fun w' hw' => ?_) e.symm⟩, hge 1 _ rfl rfl⟩
      · rw [hz0 xs (List.mem_of_getElem? h2)]
        exact (hw2.2 p (List.mem_of_getElem? h1)).2
      · obtain ⟨cur, hc⟩ := own_heap (hw'.2 p hp).2
        exact ⟨cur, _, _, hc⟩
  · intro y hyl
    refine VC.of env mixed ?_
    repeat'
     conv => whnf
     first
      | refine zA ?_ | refine zB ?_ | refine zC ?_ | refine zD ?_ | refine zE ?_ | refine zF ?_ | refine zG ?_ | refine zH ?_ | refine zJ ?_ | refine zI ?_ | refine splT ?_ | refine splF ?_ | refine splNot ?_
      | ((first | refine splIn (fun hc => ?_) (fun hc => ?_) | refine splD (fun hc => ?_) (fun hc => ?_) | refine splE (fun hc => ?_) (fun hc => ?_) | refine splNE (fun hc => ?_) (fun hc => ?_)) <;> first | (exfalso; omega) | (exfalso; dsimp only at hc; omega) | skip)
    all_goals first | (exfalso; omega) | skip
    refine loopH 1 (fun k : Nat => [(1, .v (.slice (some fa) F.length fc)), (2, .ptr 0 0), (5, .v (.slice (some ⟨y.o, 0, none⟩) T.length y.c)), (7, .v (iv ((nd : Int) - (k : Nat))))]) (fun _ => [(0, .cells [.v (iv nd), .v (iv shift), .v (iv size), .v (.slice to T.length tc), .v (.slice lo L.length lc)] 25)]) (fun (k : Nat) w2 => Below w.heap.size w w2 ∧ TbIn w.heap.size (nd + 1) y (tabK (Tr.d ⟨(nd : Int), shift, size, to, tc, T, lo, lc, L⟩) F k) w2) (fun k => k ≤ nd + 1) (fun k => nd + 1 - k) 0 (Nat.zero_le _) ⟨rfl, rfl, rfl, by rw [Int.natCast_zero, Int.sub_zero]; rfl, trivial⟩ ⟨rfl, trivial⟩ (fun w2 h => h) (fun _ _ => ⟨rfl, rfl⟩) ?_
    intro k hk
    have hKs := hTS k
    rw [hmS] at hKs
    rcases Nat.lt_or_ge k (nd + 1) with hkl | hkl
    · obtain ⟨d, hd⟩ : ∃ d : Nat, (nd : Int) - (k : Nat) = d := ⟨nd - k, by omega⟩
      have hK1 : tabK (Tr.d ⟨(nd : Int), shift, size, to, tc, T, lo, lc, L⟩) F (k + 1) = tabA (Tr.d ⟨(nd : Int), shift, size, to, tc, T, lo, lc, L⟩) F d T.length (tabK (Tr.d ⟨(nd : Int), shift, size, to, tc, T, lo, lc, L⟩) F k) := by
        show tabA (Tr.d ⟨(nd : Int), shift, size, to, tc, T, lo, lc, L⟩) F ((nd : Int).toNat - k) (Tr.d ⟨(nd : Int), shift, size, to, tc, T, lo, lc, L⟩).T.length (tabK (Tr.d ⟨(nd : Int), shift, size, to, tc, T, lo, lc, L⟩) F k) = _
        rw [hmS, Int.toNat_natCast, show nd - k = d from by omega]
      have hA := fun a (ha : a ≤ T.length) => tabA_s hn hFb (d := d) (M := 90000000 * (k : Int)) (by omega) (hTS k) a (by rw [hmS]; exact ha)
      rw [hd]
      repeat'
       conv => whnf
       first
        | refine zA ?_ | refine zB ?_ | refine zC ?_ | refine zD ?_ | refine zE ?_ | refine zF ?_ | refine zG ?_ | refine zH ?_ | refine zJ ?_ | refine zI ?_ | refine splT ?_ | refine splF ?_ | refine splNot ?_
        | ((first | refine splIn (fun hc => ?_) (fun hc => ?_) | refine splD (fun hc => ?_) (fun hc => ?_) | refine splE (fun hc => ?_) (fun hc => ?_) | refine splNE (fun hc => ?_) (fun hc => ?_)) <;> first | (exfalso; omega) | (exfalso; dsimp only at hc; omega) | skip)
      all_goals first | (exfalso; omega) | skip
      refine loopH 1 (fun a : Nat => [(1, .v (.slice (some fa) F.length fc)), (2, .ptr 0 0), (5, .v (.slice (some ⟨y.o, 0, none⟩) T.length y.c)), (7, .v (iv d)), (8, .v (iv a))]) (fun _ => [(0, .cells [.v (iv nd), .v (iv shift), .v (iv size), .v (.slice to T.length tc), .v (.slice lo L.length lc)] 25)]) (fun (a : Nat) w2 => Below w.heap.size w w2 ∧ TbIn w.heap.size (nd + 1) y (tabA (Tr.d ⟨(nd : Int), shift, size, to, tc, T, lo, lc, L⟩) F d a (tabK (Tr.d ⟨(nd : Int), shift, size, to, tc, T, lo, lc, L⟩) F k)) w2) (fun a => a ≤ T.length) (fun a => T.length - a) 0 (Nat.zero_le _) ⟨rfl, rfl, rfl, rfl, rfl, trivial⟩ ⟨rfl, trivial⟩ (fun w2 h => h) (fun _ _ => ⟨rfl, rfl⟩) ?_
      intro a ha
      rcases Nat.lt_or_ge a T.length with hal | hal
      · have hAs := hA a ha
        rw [hmS] at hAs
        have hA1 : tabA (Tr.d ⟨(nd : Int), shift, size, to, tc, T, lo, lc, L⟩) F d (a + 1) (tabK (Tr.d ⟨(nd : Int), shift, size, to, tc, T, lo, lc, L⟩) F k) = setT (tabA (Tr.d ⟨(nd : Int), shift, size, to, tc, T, lo, lc, L⟩) F d a (tabK (Tr.d ⟨(nd : Int), shift, size, to, tc, T, lo, lc, L⟩) F k)) a d (asO (Tr.d ⟨(nd : Int), shift, size, to, tc, T, lo, lc, L⟩) F (tabA (Tr.d ⟨(nd : Int), shift, size, to, tc, T, lo, lc, L⟩) F d a (tabK (Tr.d ⟨(nd : Int), shift, size, to, tc, T, lo, lc, L⟩) F k)) a d) := rfl
        obtain ⟨CC, hCC⟩ : ∃ CC, tabA (Tr.d ⟨(nd : Int), shift, size, to, tc, T, lo, lc, L⟩) F d a (tabK (Tr.d ⟨(nd : Int), shift, size, to, tc, T, lo, lc, L⟩) F k) = CC := ⟨_, rfl⟩
        rw [hCC] at hAs hA1
        obtain ⟨p, hp⟩ : ∃ p, y.D[a]? = some p := ⟨_, List.getElem?_eq_getElem (by omega)⟩
        obtain ⟨xs, hxs⟩ : ∃ xs, CC[a]? = some xs := ⟨_, List.getElem?_eq_getElem (by rw [hAs.l]; exact hal)⟩
        have h68 := fun w' (hw' : Below w.heap.size w w' ∧ TbIn w.heap.size (nd + 1) y CC w') => by
          have := rasked_ok ⟨(nd : Int), shift, size, to, tc, T, lo, lc, L⟩ (some fa) fc F (some ⟨y.o, 0, none⟩) y.c (y.rw CC) (90000000 * (k : Int) + 10000000 * (a : Int)) a d w' (h.below hw'.1) hn (hF.below hw'.1) hFb hFl (by rw [TbG.rw_len hw'.2.l]; exact hw'.2.out) hw'.2.row (by rw [TbG.rw_len hw'.2.l]; exact hyl) (fun r hr => by obtain ⟨i, q, zs, h1, h2, rfl⟩ := TbG.rw_mem hr; exact hw'.2.n zs (List.mem_of_getElem? h2)) (by rw [TbG.rw_xs hw'.2.l]; exact hAs.b) (by omega) hal (by show d ≤ (nd : Int).toNat; rw [Int.toNat_natCast]; omega)
          rw [TbG.rw_len hw'.2.l, TbG.rw_xs hw'.2.l, hyl] at this
          exact this
        obtain ⟨v, hv⟩ : ∃ v, asO (Tr.d ⟨(nd : Int), shift, size, to, tc, T, lo, lc, L⟩) F CC a d = v := ⟨_, rfl⟩
        rw [hv] at h68 hA1
        have hA2 : setT CC a d v = CC.set a (xs.set d v) := by unfold setT; rw [hxs]; rfl
        rw [hA2] at hA1
        have er : ∀ w2, Below w.heap.size w w2 ∧ TbIn w.heap.size (nd + 1) y CC w2 → ∀ q z, [Value.slice (some ⟨p.1, 0, none⟩) (nd + 1) p.2][q]? = some z → w2.cell? (((⟨y.o, 0, none⟩ : Addr).add ((a : Int).toNat * 1)).add q) = some z := fun w2 hw2 => by
          have := rd_ati hw2.2.out (TbG.rw_at hp hxs)
          rw [show Iw.cs ⟨some ⟨p.1, 0, none⟩, p.2, xs⟩ = [Value.slice (some ⟨p.1, 0, none⟩) (nd + 1) p.2] from by show [Value.slice _ xs.length _] = _; rw [hw2.2.n xs (List.mem_of_getElem? hxs)]] at this
          exact this
        have hspt : ∀ q, ((⟨p.1, 0, none⟩ : Addr).add q).spot = none := fun q => by rw [own_add]
        have hax : (⟨p.1, 0, none⟩ : Addr).add ((d : Int).toNat * 1) = ⟨p.1, d, none⟩ := by rw [own_add, Int.toNat_natCast, Nat.mul_one, Nat.zero_add]
        have hset : ∀ w2, Below w.heap.size w w2 ∧ TbIn w.heap.size (nd + 1) y CC w2 → Below w.heap.size w (w2.setCell ((⟨p.1, 0, none⟩ : Addr).add ((d : Int).toNat * 1)) (iv v)) ∧ TbIn w.heap.size (nd + 1) y (CC.set a (xs.set d v)) (w2.setCell ((⟨p.1, 0, none⟩ : Addr).add ((d : Int).toNat * 1)) (iv v)) := fun w2 hw2 => by
          rw [hax]
          exact ⟨below_set hw2.1 (hw2.2.a p (List.mem_of_getElem? hp)).1, hw2.2.set hp hxs (by omega)⟩
        have hat : ∀ w2, Below w.heap.size w w2 ∧ TbIn w.heap.size (nd + 1) y CC w2 → (∃ cs ty fr, w2.heap[((⟨p.1, 0, none⟩ : Addr).add ((d : Int).toNat * 1)).block]? = some (.cells cs ty fr) ∧ ((⟨p.1, 0, none⟩ : Addr).add ((d : Int).toNat * 1)).off < cs.size) ∧ w2.frozen? ((⟨p.1, 0, none⟩ : Addr).add ((d : Int).toNat * 1)) = false := fun w2 hw2 => by
          rw [hax]
          exact hw2.2.at hp hxs (show d < nd + 1 by omega)
        rw [hCC]
        repeat'
         conv => whnf
         first
          | refine zA ?_ | refine zB ?_ | refine zC ?_ | refine zD ?_ | refine zE ?_ | refine zF ?_ | refine zG ?_ | refine zH ?_ | refine zJ ?_ | refine zI ?_ | refine splT ?_ | refine splF ?_ | refine splNot ?_
          | ((first | refine splIn (fun hc => ?_) (fun hc => ?_) | refine splD (fun hc => ?_) (fun hc => ?_) | refine splE (fun hc => ?_) (fun hc => ?_) | refine splNE (fun hc => ?_) (fun hc => ?_)) <;> first | (exfalso; omega) | (exfalso; dsimp only at hc; omega) | skip)
          | refine Exists.intro (α := List Value) [.slice (some ⟨p.1, 0, none⟩) (nd + 1) p.2] ⟨⟨rfl, fun w' hw' => er w' hw'⟩, ?_⟩
          | ((with_reducible show CallEv _ _ 68 _ _ _ _ _); refine callE (k := 68) (fun β w' hbw => h68 w' hbw) ?_)
          | refine stL (stF env rfl rfl rfl rfl rfl rfl (hspt _) (fun w2 => Below w.heap.size w w2 ∧ TbIn w.heap.size (nd + 1) y (CC.set a (xs.set d v)) w2) (fun w' hw' => hat w' hw') (fun w' hw' => hset w' hw') ?_)
        all_goals first | (exfalso; omega) | exact ⟨a + 1, by omega, by omega, Ent.weak rfl ⟨rfl, rfl, rfl, rfl, rfl, trivial⟩ ⟨rfl, trivial⟩ fun w2 h => ⟨h.1, by rw [hA1]; exact h.2⟩⟩
      · obtain rfl : a = T.length := by omega
        rw [← hK1]
        repeat'
         conv => whnf
         first
          | refine zA ?_ | refine zB ?_ | refine zC ?_ | refine zD ?_ | refine zE ?_ | refine zF ?_ | refine zG ?_ | refine zH ?_ | refine zJ ?_ | refine zI ?_ | refine splT ?_ | refine splF ?_ | refine splNot ?_
          | ((first | refine splIn (fun hc => ?_) (fun hc => ?_) | refine splD (fun hc => ?_) (fun hc => ?_) | refine splE (fun hc => ?_) (fun hc => ?_) | refine splNE (fun hc => ?_) (fun hc => ?_)) <;> first | (exfalso; omega) | (exfalso; dsimp only at hc; omega) | skip)
        all_goals first | (exfalso; omega) | exact ⟨k + 1, by omega, by omega, Ent.weak rfl ⟨rfl, rfl, rfl, by rw [show (nd : Int) - ((k + 1 : Nat) : Int) = (d : Int) - 1 from by omega]; rfl, trivial⟩ ⟨rfl, trivial⟩ fun w2 h => h⟩
    · obtain rfl : k = nd + 1 := by omega
      repeat'
       conv => whnf
       first
        | refine zA ?_ | refine zB ?_ | refine zC ?_ | refine zD ?_ | refine zE ?_ | refine zF ?_ | refine zG ?_ | refine zH ?_ | refine zJ ?_ | refine zI ?_ | refine splT ?_ | refine splF ?_ | refine splNot ?_
        | ((first | refine splIn (fun hc => ?_) (fun hc => ?_) | refine splD (fun hc => ?_) (fun hc => ?_) | refine splE (fun hc => ?_) (fun hc => ?_) | refine splNE (fun hc => ?_) (fun hc => ?_)) <;> first | (exfalso; omega) | (exfalso; dsimp only at hc; omega) | skip)
      all_goals first | (exfalso; omega) | exact ⟨fun w' h => h.1, fun β w' hB hB2 hblk => ⟨y, by rw [show y.v = .slice (some ⟨y.o, 0, none⟩) T.length y.c from by rw [← hyl]]; rfl, hB2, hB.2.st.imp fun w2 h => ⟨h, hyl⟩⟩⟩
end Go.Proofs.Ythfabodamhdhaaa
