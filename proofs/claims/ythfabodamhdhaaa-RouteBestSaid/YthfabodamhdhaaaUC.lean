/- The most that any season brings, by the reference: what Back, few and Best return. -/
import Derived.Test.YthfabodamhdhaaaUB
import Derived.Test.YthfabodamhdhaaaTK
import Derived.Test.YthfabodamhdhaaaTE
namespace Go.Proofs.Ythfabodamhdhaaa
open Go Tx Go.RowKit
set_option linter.unusedSimpArgs false
set_option linter.unusedVariables false

/-- Is a tour small enough for a search? -/
def fewB (x : To) : Bool := !(toB x) || (decide (x.T.length ≤ 4) && decide (x.days ≤ 11))
set_option maxHeartbeats 1000000 in
set_option maxRecDepth 100000 in
theorem few_ok (x : Tr) (w : World) (h : TrI0 x w) : Calls Try.prog 18 #[x.v] w fun e w' => e = .returned (.bool (fewB x.d)) ∧ Below w.heap.size w w' := by
  have h22 := fun w' hb => Right_ok x w' (h.below hb)
  have hlen : x.d.T.length = x.T.length := List.length_map ..
  have htl := h.tl
  unfold fewB
  rw [hlen]
  generalize toB x.d = b at *
  clear h hlen
  obtain ⟨days, shift, size, to, tc, T, lo, lc, L⟩ := x
  dsimp only at htl ⊢
  refine calls_val env mixed Try.func18 has18 Try.ntmps18 [.agg #[iv days, iv shift, iv size, .slice to T.length tc, .slice lo L.length lc]] (by simp) ?_
  cases b
  all_goals skip
  · skip
    repeat'
     conv => whnf
     first
      | refine zA ?_ | refine zB ?_ | refine zC ?_ | refine zD ?_ | refine zE ?_ | refine zF ?_ | refine zG ?_ | refine zH ?_ | refine zJ ?_ | refine zI ?_ | refine splT ?_ | refine splF ?_ | refine splNot ?_
      | ((first | refine splIn (fun hc => ?_) (fun hc => ?_) | refine splD (fun hc => ?_) (fun hc => ?_) | refine splE (fun hc => ?_) (fun hc => ?_) | refine splNE (fun hc => ?_) (fun hc => ?_)) <;> first | (exfalso; omega) | (exfalso; dsimp only at hc; omega) | skip)
      | ((with_reducible show CallEv _ _ 22 _ _ _ _ _); refine callE (k := 22) (fun β w' hbw => h22 w' (by repeat (first | exact hbw | replace hbw := hbw.1))) ?_)
    all_goals first | (exfalso; omega) | exact ⟨fun β => rfl, fun w' h => h⟩
  · skip
    repeat'
     conv => whnf
     first
      | refine zA ?_ | refine zB ?_ | refine zC ?_ | refine zD ?_ | refine zE ?_ | refine zF ?_ | refine zG ?_ | refine zH ?_ | refine zJ ?_ | refine zI ?_ | refine splT ?_ | refine splF ?_ | refine splNot ?_
      | ((first | refine splIn (fun hc => ?_) (fun hc => ?_) | refine splD (fun hc => ?_) (fun hc => ?_) | refine splE (fun hc => ?_) (fun hc => ?_) | refine splNE (fun hc => ?_) (fun hc => ?_)) <;> first | (exfalso; omega) | (exfalso; dsimp only at hc; omega) | skip)
      | ((with_reducible show CallEv _ _ 22 _ _ _ _ _); refine callE (k := 22) (fun β w' hbw => h22 w' (by repeat (first | exact hbw | replace hbw := hbw.1))) ?_)
    all_goals first | (exfalso; omega) | exact ⟨fun β => congrArg Value.bool (by simp [*] <;> omega), fun w' h => (by repeat (first | exact h | replace h := h.1))⟩
set_option maxHeartbeats 4000000 in
set_option maxRecDepth 100000 in
theorem Back_ok (L : List (Int × Int × Int)) (o : Option Addr) (c : Nat) (w : World) (hrd : Rd 3 spF (.slice o L.length c) L w) (hl : L.length ≤ 1000) :
    Calls Try.prog 23 #[.slice o L.length c] w fun e w' => ∃ y : Option Addr × Nat, e = .returned (sV L.length y) ∧ Below w.heap.size w w' ∧ St w.heap.size (fun w2 => Rd 3 spF (sV L.length y) L w2 ∧ L.length ≤ y.2) w' := by
  refine calls_fam env mixed Try.func23 has23 Try.ntmps23 [.slice o L.length c] (by simp) ?_
  repeat'
   conv => whnf
   first
    | refine zA ?_ | refine zB ?_ | refine zC ?_ | refine zD ?_ | refine zE ?_ | refine zF ?_ | refine zG ?_ | refine zH ?_ | refine zJ ?_ | refine zI ?_ | refine splT ?_ | refine splF ?_ | refine splNot ?_
    | ((first | refine splIn (fun hc => ?_) (fun hc => ?_) | refine splD (fun hc => ?_) (fun hc => ?_) | refine splE (fun hc => ?_) (fun hc => ?_) | refine splNE (fun hc => ?_) (fun hc => ?_)) <;> first | (exfalso; omega) | (exfalso; dsimp only at hc; omega) | skip)
  refine loopN 2 (fun k : Nat => [(0, .v (.slice o L.length c)), (3, oSV 0 1 (L.take k)), (4, .v (iv k))]) (fun k => oM 0 1 3 spF 89 (L.take k)) (fun k => k ≤ L.length) (fun k => L.length - k) 0 (Nat.zero_le _) ⟨rfl, rfl, rfl, trivial⟩ trivial (fun k _ => by cases L.take k <;> exact ⟨rfl, rfl⟩) ?_
  intro k hk
  rcases Nat.lt_or_ge k L.length with hkl | hkl
  · obtain ⟨⟨p1, p2, p3⟩, hx⟩ : ∃ b, L[k]? = some b := ⟨_, List.getElem?_eq_getElem hkl⟩
    obtain ⟨_, ad, rfl, _⟩ := hrd.ptr (by omega)
    have e0 := fun (w' : World) hw' => rd_fldz (hrd.below (w' := w') hw') hx _ rfl 0 (iv p1) rfl
    have e1 := fun (w' : World) hw' => rd_fldz (hrd.below (w' := w') hw') hx _ rfl 1 (iv p2) rfl
    have e2 := fun (w' : World) hw' => rd_fldz (hrd.below (w' := w') hw') hx _ rfl 2 (iv p3) rfl
    have ht : L.take (k + 1) = L.take k ++ [(p1, p2, p3)] := by rw [List.take_add_one, hx]; rfl
    have hlen : (L.take k).length = k := by rw [List.length_take]; omega
    generalize L.take k = D at *
    cases D with
    | nil =>
      repeat'
       conv => whnf
       first
        | refine zA ?_ | refine zB ?_ | refine zC ?_ | refine zD ?_ | refine zE ?_ | refine zF ?_ | refine zG ?_ | refine zH ?_ | refine zJ ?_ | refine zI ?_ | refine splT ?_ | refine splF ?_ | refine splNot ?_
        | ((first | refine splIn (fun hc => ?_) (fun hc => ?_) | refine splD (fun hc => ?_) (fun hc => ?_) | refine splE (fun hc => ?_) (fun hc => ?_) | refine splNE (fun hc => ?_) (fun hc => ?_)) <;> first | (exfalso; omega) | (exfalso; dsimp only at hc; omega) | skip)
        | refine Exists.intro (α := List Value) [iv p1] ⟨⟨rfl, fun w' hw' => e0 w' hw'⟩, ?_⟩
        | refine Exists.intro (α := List Value) [iv p2] ⟨⟨rfl, fun w' hw' => e1 w' hw'⟩, ?_⟩
        | refine Exists.intro (α := List Value) [iv p3] ⟨⟨rfl, fun w' hw' => e2 w' hw'⟩, ?_⟩
      all_goals first | (exfalso; omega) | exact ⟨k + 1, by omega, by omega, Ent.ren (rho [(0, 3), (1, 4)]) rfl (by rw [ht]; rfl) ⟨rfl, by rw [ht]; rfl, rfl, trivial⟩ (by rw [ht]; exact ⟨rfl, trivial⟩) fun _ h => h⟩
    | cons a D =>
      simp only [List.length_cons] at hlen
      repeat'
       conv => whnf
       first
        | refine zA ?_ | refine zB ?_ | refine zC ?_ | refine zD ?_ | refine zE ?_ | refine zF ?_ | refine zG ?_ | refine zH ?_ | refine zJ ?_ | refine zI ?_ | refine splT ?_ | refine splF ?_ | refine splNot ?_
        | ((first | refine splIn (fun hc => ?_) (fun hc => ?_) | refine splD (fun hc => ?_) (fun hc => ?_) | refine splE (fun hc => ?_) (fun hc => ?_) | refine splNE (fun hc => ?_) (fun hc => ?_)) <;> first | (exfalso; omega) | (exfalso; dsimp only at hc; omega) | skip)
        | refine Exists.intro (α := List Value) [iv p1] ⟨⟨rfl, fun w' hw' => e0 w' hw'⟩, ?_⟩
        | refine Exists.intro (α := List Value) [iv p2] ⟨⟨rfl, fun w' hw' => e1 w' hw'⟩, ?_⟩
        | refine Exists.intro (α := List Value) [iv p3] ⟨⟨rfl, fun w' hw' => e2 w' hw'⟩, ?_⟩
      all_goals first | (exfalso; omega) | exact ⟨k + 1, by omega, by omega, Ent.ren (rho [(0, 3), (1, 4)]) rfl (by rw [ht]; rfl) ⟨rfl, by rw [ht]; simp [oSV]; rfl, rfl, trivial⟩ (by rw [ht]; exact ⟨by simp [oM]; rfl, trivial⟩) fun _ h => h⟩
  · obtain rfl : k = L.length := by omega
    rw [List.take_length]
    cases L with
    | nil =>
      repeat'
       conv => whnf
       first
        | refine zA ?_ | refine zB ?_ | refine zC ?_ | refine zD ?_ | refine zE ?_ | refine zF ?_ | refine zG ?_ | refine zH ?_ | refine zJ ?_ | refine zI ?_ | refine splT ?_ | refine splF ?_ | refine splNot ?_
        | ((first | refine splIn (fun hc => ?_) (fun hc => ?_) | refine splD (fun hc => ?_) (fun hc => ?_) | refine splE (fun hc => ?_) (fun hc => ?_) | refine splNE (fun hc => ?_) (fun hc => ?_)) <;> first | (exfalso; omega) | (exfalso; dsimp only at hc; omega) | skip)
      exact ⟨fun w' h => h, fun β w' hB hblk => ⟨(none, 0), rfl, fun _ _ => ⟨.inl ⟨rfl, rfl⟩, Nat.le_refl _⟩⟩⟩
    | cons a D =>
      repeat'
       conv => whnf
       first
        | refine zA ?_ | refine zB ?_ | refine zC ?_ | refine zD ?_ | refine zE ?_ | refine zF ?_ | refine zG ?_ | refine zH ?_ | refine zJ ?_ | refine zI ?_ | refine splT ?_ | refine splF ?_ | refine splNot ?_
        | ((first | refine splIn (fun hc => ?_) (fun hc => ?_) | refine splD (fun hc => ?_) (fun hc => ?_) | refine splE (fun hc => ?_) (fun hc => ?_) | refine splNE (fun hc => ?_) (fun hc => ?_)) <;> first | (exfalso; omega) | (exfalso; dsimp only at hc; omega) | skip)
      exact ⟨fun w' h => h, fun β w' hB hblk => ⟨(some ⟨β 0, 0, none⟩, β 1), rfl, fun w2 k2 => ⟨Rd.of_owns (sz := 3) (f := spF) (fun _ => rfl) rfl rfl (hblk 0 _ rfl rfl w2 k2), by
        rcases (hblk 0 _ rfl rfl w2 k2).2 with ⟨h', _⟩ | ⟨g, cap, cur, q0, q1, q2, q3, _⟩
        · cases h'
        · simp only [Value.slice.injEq] at q0
          obtain ⟨_, _, rfl⟩ := q0
          exact q3⟩⟩⟩
theorem lenS : ∀ L : List (Int × Int × Int), (L.flatMap spF).length = L.length * 3
  | [] => rfl
  | a :: L => by rw [List.flatMap_cons, List.length_append, lenS L, List.length_cons]; simp only [spF, List.length_cons, List.length_nil]; omega
/-- A row of own memory is a season. -/
theorem own_spin {β : Nat → Nat} {w : World} {i j n : Nat} {S : List (Int × Int × Int)} {X : List Value} (h : (Blk.own j n 3 X 89).ok β w (β i)) (hn : n = S.length) (hX : X = S.flatMap spF) (hl : S.length ≤ 1000000) (hS : SpN 100 S) : SpIn (some ⟨β i, 0, none⟩) (β j) S w := by
  subst hn; subst hX
  refine ⟨Rd.of_owns (sz := 3) (f := spF) (fun _ => rfl) rfl rfl h, hl, ?_, fun s hs => ?_⟩
  · rcases h.2 with ⟨h', _⟩ | ⟨g, cap, cur, q0, q1, q2, q3, _⟩
    · cases h'
    · simp only [Value.slice.injEq] at q0
      omega
  · obtain ⟨k, f, l, rfl, _, h1, h2⟩ := hS s hs
    dsimp only
    omega
set_option maxHeartbeats 8000000 in
set_option maxRecDepth 100000 in
theorem rbest_ok (x : Tr) (ht : toB x.d = true) : ∀ (n : Nat) (A : List (Nat × Nat × Nat)), unp (x.T.length - 1) (aft (0, 0, 0) A).1 = n → C6 x.d A → ∀ (o : Option Addr) (c : Nat) (w : World), TrIn x w → SpIn o c (A.map toI) w → (A = [] → o = none ∧ c = 0) →
    Calls Try.prog 27 #[x.v, .slice o A.length c] w fun e w' => ∃ r : {r : Int // OptR x.d A r}, e = .returned (iv r.1) ∧ Below w.heap.size w w' ∧ St w.heap.size (fun _ => True) w' := by
  intro n
  induction n using Nat.strongRecOn with
  | ind n ih =>
  intro A hun hC o c w hI hS hA0
  have hn := toB_n ht
  have hlen : x.d.T.length = x.T.length := List.length_map ..
  have hnT := hn.n
  rw [hlen] at hnT
  have hday := hn.d
  have hdx : x.d.days = x.days := rfl
  rw [hdx] at hday
  have hAl : A.length + unp (x.d.T.length - 1) (aft (0, 0, 0) A).1 = unp (x.d.T.length - 1) (aft (0, 0, 0) ([] : List (Nat × Nat × Nat))).1 := C6.len (x := x.d) A [] hC
  have hAn : A.length ≤ 8 := by
    have : unp (x.d.T.length - 1) (aft (0, 0, 0) ([] : List (Nat × Nat × Nat))).1 ≤ x.d.T.length - 1 := by
      unfold unp
      have := List.length_filter_le (fun t => !(Nat.testBit (aft (0, 0, 0) ([] : List (Nat × Nat × Nat))).1 (t + 1))) (List.range (x.d.T.length - 1))
      rwa [List.length_range] at this
    omega
  have hsl : (A.map toI).length = A.length := List.length_map ..
  have hsp := hC.spn hn
  have hnb := hC.neb hn
  have h25 := fun w' (hb : Below w.heap.size w w') => rfaults_ok x o c (A.map toI) w' (hI.below hb) hn (hS.below hb) hnb
  have h26 := fun w' (hb : Below w.heap.size w w') => rprofit_ok x o c (A.map toI) w' (hI.below hb) hn (hS.r.below hb) (by omega) (by rw [← hlen]; exact hsp)
  simp only [hsl] at h25 h26
  -- the stop that is tried
  have hnew : ∀ t f l : Nat, SpIn = SpIn := fun _ _ _ => rfl
  have h63 : ∀ (t f l N : Nat), N = A.length + 1 → ∀ (o' : Option Addr) (c' : Nat) w', Below w.heap.size w w' → SpIn o' c' ((A ++ [(t, f, l)]).map toI) w' → (1 ≤ t ∧ t < 100 ∧ f ≤ l ∧ l < f + 10 ∧ l < 60) →
      Calls Try.prog 63 #[x.v, .slice o' N c', iv A.length] w' fun e w2 => e = .returned (.int .u8 (fltO x.d ((A ++ [(t, f, l)]).map toI) A.length t f l 7)) ∧ Below w'.heap.size w' w2 := fun t f l N hN o' c' w' hb hS' hr => by
    subst hN
    have hnb' : neB ((A ++ [(t, f, l)]).map toI) = true := by
      unfold neB at hnb ⊢
      rw [List.map_append, List.all_append, hnb, Bool.true_and]
      simp [inB]; omega
    have := rfault_ok x o' c' ((A ++ [(t, f, l)]).map toI) A.length t f l w' (hI.below hb) hn hS' hnb' (by simp)
    simpa using this
  have hstp : ∀ t f l : Nat, (fltO x.d ((A ++ [(t, f, l)]).map toI) A.length t f l 7 = 0 ∨ fltO x.d ((A ++ [(t, f, l)]).map toI) A.length t f l 7 = 7) ↔ Stp x.d (aft (0, 0, 0) A) (t, f, l) := fun t f l => by
    rw [flt_six]
    have := six_iff hn (A := A ++ [(t, f, l)]) (i := A.length) (u := (t, f, l)) (by simp) (fun j v hj hv => by
      rw [List.getElem?_append_left hj] at hv
      exact (hC j v hv).1)
    rw [List.take_append_of_le_length (Nat.le_refl _), List.take_length] at this
    exact this.symm
  have h27 : ∀ (t f l N : Nat), N = A.length + 1 → ∀ (o' : Option Addr) (c' : Nat) w', Stp x.d (aft (0, 0, 0) A) (t, f, l) → Below w.heap.size w w' → SpIn o' c' ((A ++ [(t, f, l)]).map toI) w' →
      Calls Try.prog 27 #[x.v, .slice o' N c'] w' fun e w2 => ∃ r : {r : Int // OptR x.d (A ++ [(t, f, l)]) r}, e = .returned (iv r.1) ∧ Below w'.heap.size w' w2 ∧ St w'.heap.size (fun _ => True) w2 := fun t f l N hN o' c' w' hs hb hS' => by
    subst hN
    have g1 : 1 ≤ t := hs.1.1
    have g2 : t < x.d.T.length := hs.1.2
    have hu := unp_or (n := x.d.T.length - 1) (t := t - 1) (S := (aft (0, 0, 0) A).1) (by omega) (by rw [show t - 1 + 1 = t from by omega]; exact hs.2.1)
    rw [show t - 1 + 1 = t from by omega] at hu
    have h1 := aft_snoc A (t, f, l) (0, 0, 0)
    have := ih (unp (x.T.length - 1) (aft (0, 0, 0) (A ++ [(t, f, l)])).1) (by rw [h1]; dsimp only; rw [← hlen]; rw [← hlen] at hun; omega) (A ++ [(t, f, l)]) rfl (hC.snoc hs) o' c' w' (hI.below hb) hS' (fun e => by simp at e)
    simpa using this
  have hst1 : ∀ m : Int, (fsO x.d (A.map toI) = [] → m = pfO x.d (A.map toI)) → (fsO x.d (A.map toI) ≠ [] → m = -1000000000000) → OptB x.d A (1, 0, 0) m := fun m => opt_start hn hC
  have hstep : ∀ u, Stp x.d (aft (0, 0, 0) A) u → (1 ≤ u.1 ∧ u.1 < x.T.length) ∧ (aft (0, 0, 0) A).2.2 ≤ u.2.1 ∧ (u.2.1 ≤ u.2.2 ∧ u.2.2 < u.2.1 + 10) ∧ (u.2.2 : Int) < x.days ∧ (aft (0, 0, 0) A).1.testBit u.1 = false := fun u hu => by
    have h1 := ALO_ok hn u.1 u.2.1 hu.1.1 hu.1.2 u.2.2 hu.2.2.2
    have h2 := hu.1
    have h3 := hu.2.2.1
    rw [hlen] at h2
    rw [hdx] at h1
    exact ⟨h2, by omega, ⟨h1.1, h1.2.1⟩, h1.2.2, hu.2.1⟩
  have hd0 : (A = [] → (aft (0, 0, 0) A).2.2 = 0) ∧ ∀ u, A[A.length - 1]? = some u → (aft (0, 0, 0) A).2.2 = u.2.2 + 1 := ⟨fun e => by rw [e]; rfl, fun u hu => by
    have h1 := aft_last hu (0, 0, 0)
    have h2 := (List.getElem?_eq_some_iff.1 hu).1
    rw [show A.length - 1 + 1 = A.length from by omega, List.take_length] at h1
    rw [h1]⟩
  have hbit : ∀ t, (aft (0, 0, 0) A).1.testBit t = A.any fun u => u.1 == t := fun t => by rw [aft_bit]; simp
  have hspA : SpN 100 (A.map toI) := fun s hs => by
    obtain ⟨k, f, l, e, g1, g2, g3⟩ := hsp s hs
    exact ⟨k, f, l, e, by omega, g2, g3⟩
  clear ih
  have h25' : ∀ w', Below w.heap.size w w' → Calls Try.prog 25 #[x.v, .slice o A.length c] w' fun e w2 => ∃ y : Option Addr × Nat, e = .returned (sV (fsO x.d (A.map toI)).length y) ∧ Below w'.heap.size w' w2 ∧ St w'.heap.size (fun _ => True) w2 := fun w' hb => (h25 w' hb).mono fun e w2 ⟨y, e1, e2, e3⟩ => ⟨y, e1, e2, fun _ _ => trivial⟩
  generalize hfs : fsO x.d (A.map toI) = FS at *
  generalize hpf : pfO x.d (A.map toI) = PF at *
  have hl60 : ∀ (i : Nat) u, A[i]? = some u → u.2.2 < 60 := fun i u hu => by
    obtain ⟨k, f, l, e, _, _, h3⟩ := hsp (toI u) (List.mem_map.2 ⟨u, List.mem_of_getElem? hu, rfl⟩)
    have := congrArg (fun s : Int × Int × Int => s.2.2) e
    dsimp only [toI] at this
    omega
  have hd60 : (aft (0, 0, 0) A).2.2 ≤ 60 := by
    rcases Nat.eq_zero_or_pos A.length with hz | hz
    · rw [hd0.1 (List.length_eq_zero_iff.1 hz)]; omega
    · obtain ⟨u, hu⟩ : ∃ u, A[A.length - 1]? = some u := ⟨_, List.getElem?_eq_getElem (by omega)⟩
      have := hl60 _ _ hu
      rw [hd0.2 _ hu]; omega
  obtain ⟨d0, hd0e⟩ : ∃ d, (aft (0, 0, 0) A).2.2 = d := ⟨_, rfl⟩
  rw [hd0e] at hd0 hstep hd60
  obtain ⟨days, shift, size, to, tc, T, lo, lc, L⟩ := x
  have hidx : ∀ k u, A[k]? = some u → (A.map toI)[k]? = some (toI u) := fun k u h => by rw [List.getElem?_map, h]; rfl
  refine calls_famV env mixed Try.func27 has27 Try.ntmps27 [.agg #[iv days, iv shift, iv size, .slice to T.length tc, .slice lo L.length lc], .slice o A.length c] (by simp) ?_
  refine VC.cutE env mixed 5 1 (fun m : Int => [(1, .v (.slice o A.length c)), (2, .ptr 0 0), (5, .v (iv m)), (6, .v (iv d0))]) (fun _ => [(0, .cells [.v (iv days), .v (iv shift), .v (iv size), .v (.slice to T.length tc), .v (.slice lo L.length lc)] 25)]) (fun m => OptB (Tr.d ⟨days, shift, size, to, tc, T, lo, lc, L⟩) A (1, 0, 0) m) (fun _ _ => ⟨rfl, rfl⟩) ?_ ?_
  · clear h63 hstp h27 hstep
    dsimp only at hnT hday
    by_cases hfe : FS = []
    · have hst2 := hst1 PF (fun _ => rfl) (fun h => absurd hfe h)
      have hfl0 : FS.length = 0 := by rw [hfe]; rfl
      rcases Nat.eq_zero_or_pos A.length with hz | hz
      · have hd0z := hd0.1 (List.length_eq_zero_iff.1 hz)
        repeat'
         conv => whnf
         first
          | refine zA ?_ | refine zB ?_ | refine zC ?_ | refine zD ?_ | refine zE ?_ | refine zF ?_ | refine zG ?_ | refine zH ?_ | refine zJ ?_ | refine zI ?_ | refine splT ?_ | refine splF ?_ | refine splNot ?_
          | ((first | refine splIn (fun hc => ?_) (fun hc => ?_) | refine splD (fun hc => ?_) (fun hc => ?_) | refine splE (fun hc => ?_) (fun hc => ?_) | refine splNE (fun hc => ?_) (fun hc => ?_)) <;> first | (exfalso; omega) | (exfalso; dsimp only at hc; omega) | skip)
          | ((with_reducible show CallEv _ _ 25 _ _ _ _ _); refine callF [] (fun y : Option Addr × Nat => sV FS.length y) (fun y w2 => True) (fun β w' _ hbw => (h25' w' (by repeat (first | exact hbw | replace hbw := hbw.1)))) ?_; intro y)
          | ((with_reducible show CallEv _ _ 26 _ _ _ _ _); refine callE (k := 26) (fun β w' hbw => h26 w' (by repeat (first | exact hbw | replace hbw := hbw.1))) ?_)
        all_goals first | (exfalso; omega) | exact ⟨rfl, PF, hst2, Ent.weak rfl ⟨rfl, rfl, rfl, by first | rfl | (rw [hd0z]; rfl), trivial⟩ ⟨rfl, trivial⟩ fun w2 h => (by repeat (first | exact h | replace h := h.1))⟩
      · obtain ⟨⟨t1, f1, l1⟩, hu⟩ : ∃ u, A[A.length - 1]? = some u := ⟨_, List.getElem?_eq_getElem (by omega)⟩
        have hd0z := hd0.2 _ hu
        dsimp only at hd0z
        have hl1 := hl60 _ _ hu
        dsimp only at hl1
        obtain ⟨_, ad, rfl, _⟩ := hS.r.ptr (by omega)
        have hsr := hS.r
        rw [hsl] at hsr
        have e2 := fun (w' : World) (hw' : Below w.heap.size w w') => rd_fldz (hsr.below hw') (hidx _ _ hu) ((A.length : Int) - 1) (by omega) 2 (iv l1) rfl
        repeat'
         conv => whnf
         first
          | refine zA ?_ | refine zB ?_ | refine zC ?_ | refine zD ?_ | refine zE ?_ | refine zF ?_ | refine zG ?_ | refine zH ?_ | refine zJ ?_ | refine zI ?_ | refine splT ?_ | refine splF ?_ | refine splNot ?_
          | ((first | refine splIn (fun hc => ?_) (fun hc => ?_) | refine splD (fun hc => ?_) (fun hc => ?_) | refine splE (fun hc => ?_) (fun hc => ?_) | refine splNE (fun hc => ?_) (fun hc => ?_)) <;> first | (exfalso; omega) | (exfalso; dsimp only at hc; omega) | skip)
          | ((with_reducible show CallEv _ _ 25 _ _ _ _ _); refine callF [] (fun y : Option Addr × Nat => sV FS.length y) (fun y w2 => True) (fun β w' _ hbw => (h25' w' (by repeat (first | exact hbw | replace hbw := hbw.1)))) ?_; intro y)
          | ((with_reducible show CallEv _ _ 26 _ _ _ _ _); refine callE (k := 26) (fun β w' hbw => h26 w' (by repeat (first | exact hbw | replace hbw := hbw.1))) ?_)
          | refine Exists.intro (α := List Value) [iv l1] ⟨⟨rfl, fun w' hw' => e2 w' (by repeat (first | exact hw' | replace hw' := hw'.1))⟩, ?_⟩
        all_goals first | (exfalso; omega) | exact ⟨rfl, PF, hst2, Ent.weak rfl ⟨rfl, rfl, rfl, by first | rfl | (rw [hd0z]; rfl), trivial⟩ ⟨rfl, trivial⟩ fun w2 h => (by repeat (first | exact h | replace h := h.1))⟩
    · have hfl : 1 ≤ FS.length := by cases FS with | nil => exact absurd rfl hfe | cons a r => simp
      have hst2 := hst1 (-1000000000000) (fun h => absurd h hfe) (fun _ => rfl)
      have hfl2 : FS.length ≤ 1000000 := by rw [← hfs]; exact Nat.le_trans (fsP_len _ _ _) (by rw [hsl]; omega)
      clear hst1
      rcases Nat.eq_zero_or_pos A.length with hz | hz
      · have hd0z := hd0.1 (List.length_eq_zero_iff.1 hz)
        repeat'
         conv => whnf
         first
          | refine zA ?_ | refine zB ?_ | refine zC ?_ | refine zD ?_ | refine zE ?_ | refine zF ?_ | refine zG ?_ | refine zH ?_ | refine zJ ?_ | refine zI ?_ | refine splT ?_ | refine splF ?_ | refine splNot ?_
          | ((first | refine splIn (fun hc => ?_) (fun hc => ?_) | refine splD (fun hc => ?_) (fun hc => ?_) | refine splE (fun hc => ?_) (fun hc => ?_) | refine splNE (fun hc => ?_) (fun hc => ?_)) <;> first | (exfalso; omega) | (exfalso; dsimp only at hc; omega) | skip)
          | ((with_reducible show CallEv _ _ 25 _ _ _ _ _); refine callF [] (fun y : Option Addr × Nat => sV FS.length y) (fun y w2 => True) (fun β w' _ hbw => (h25' w' (by repeat (first | exact hbw | replace hbw := hbw.1)))) ?_; intro y)
        all_goals first | (exfalso; omega) | exact ⟨rfl, (-1000000000000), hst2, Ent.weak rfl ⟨rfl, rfl, rfl, by first | rfl | (rw [hd0z]; rfl), trivial⟩ ⟨rfl, trivial⟩ fun w2 h => (by repeat (first | exact h | replace h := h.1))⟩
      · obtain ⟨⟨t1, f1, l1⟩, hu⟩ : ∃ u, A[A.length - 1]? = some u := ⟨_, List.getElem?_eq_getElem (by omega)⟩
        have hd0z := hd0.2 _ hu
        dsimp only at hd0z
        have hl1 := hl60 _ _ hu
        dsimp only at hl1
        obtain ⟨_, ad, rfl, _⟩ := hS.r.ptr (by omega)
        have hsr := hS.r
        rw [hsl] at hsr
        have e2 := fun (w' : World) (hw' : Below w.heap.size w w') => rd_fldz (hsr.below hw') (hidx _ _ hu) ((A.length : Int) - 1) (by omega) 2 (iv l1) rfl
        repeat'
         conv => whnf
         first
          | refine zA ?_ | refine zB ?_ | refine zC ?_ | refine zD ?_ | refine zE ?_ | refine zF ?_ | refine zG ?_ | refine zH ?_ | refine zJ ?_ | refine zI ?_ | refine splT ?_ | refine splF ?_ | refine splNot ?_
          | ((first | refine splIn (fun hc => ?_) (fun hc => ?_) | refine splD (fun hc => ?_) (fun hc => ?_) | refine splE (fun hc => ?_) (fun hc => ?_) | refine splNE (fun hc => ?_) (fun hc => ?_)) <;> first | (exfalso; omega) | (exfalso; dsimp only at hc; omega) | skip)
          | ((with_reducible show CallEv _ _ 25 _ _ _ _ _); refine callF [] (fun y : Option Addr × Nat => sV FS.length y) (fun y w2 => True) (fun β w' _ hbw => (h25' w' (by repeat (first | exact hbw | replace hbw := hbw.1)))) ?_; intro y)
          | refine Exists.intro (α := List Value) [iv l1] ⟨⟨rfl, fun w' hw' => e2 w' (by repeat (first | exact hw' | replace hw' := hw'.1))⟩, ?_⟩
        all_goals first | (exfalso; omega) | exact ⟨rfl, (-1000000000000), hst2, Ent.weak rfl ⟨rfl, rfl, rfl, by first | rfl | (rw [hd0z]; rfl), trivial⟩ ⟨rfl, trivial⟩ fun w2 h => (by repeat (first | exact h | replace h := h.1))⟩
  · intro m0 hm0
    refine VC.of env mixed ?_
    clear h25 h26 hst1 hd0 hfs hpf
    dsimp only at hnT hday hstep
    repeat'
     conv => whnf
     first
      | refine zA ?_ | refine zB ?_ | refine zC ?_ | refine zD ?_ | refine zE ?_ | refine zF ?_ | refine zG ?_ | refine zH ?_ | refine zJ ?_ | refine zI ?_ | refine splT ?_ | refine splF ?_ | refine splNot ?_
      | ((first | refine splIn (fun hc => ?_) (fun hc => ?_) | refine splD (fun hc => ?_) (fun hc => ?_) | refine splE (fun hc => ?_) (fun hc => ?_) | refine splNE (fun hc => ?_) (fun hc => ?_)) <;> first | (exfalso; omega) | (exfalso; dsimp only at hc; omega) | skip)
    all_goals first | (exfalso; omega) | skip
    refine loopE (fun q : Nat × Int => [(1, .v (.slice o A.length c)), (2, .ptr 0 0), (5, .v (iv q.2)), (6, .v (iv d0)), (7, .v (iv q.1))]) (fun _ => [(0, .cells [.v (iv days), .v (iv shift), .v (iv size), .v (.slice to T.length tc), .v (.slice lo L.length lc)] 25)]) (fun q => OptB (Tr.d ⟨days, shift, size, to, tc, T, lo, lc, L⟩) A (q.1, 0, 0) q.2 ∧ (1 ≤ q.1 ∧ q.1 ≤ T.length)) (fun q => T.length - q.1) (1, m0) ⟨hm0, by omega⟩ ⟨rfl, rfl, rfl, rfl, rfl, trivial⟩ ⟨rfl, trivial⟩ (fun _ => ⟨rfl, rfl⟩) ?_
    intro ⟨t, m1⟩ ⟨hq1, hq2⟩
    dsimp only at hq1 hq2 ⊢
    rcases Nat.lt_or_ge t T.length with htl | htl
    · skip
      repeat'
       conv => whnf
       first
        | refine zA ?_ | refine zB ?_ | refine zC ?_ | refine zD ?_ | refine zE ?_ | refine zF ?_ | refine zG ?_ | refine zH ?_ | refine zJ ?_ | refine zI ?_ | refine splT ?_ | refine splF ?_ | refine splNot ?_
        | ((first | refine splIn (fun hc => ?_) (fun hc => ?_) | refine splD (fun hc => ?_) (fun hc => ?_) | refine splE (fun hc => ?_) (fun hc => ?_) | refine splNE (fun hc => ?_) (fun hc => ?_)) <;> first | (exfalso; omega) | (exfalso; dsimp only at hc; omega) | skip)
      all_goals first | (exfalso; omega) | skip
      refine loopE (fun j : Nat => [(1, .v (.slice o A.length c)), (2, .ptr 0 0), (5, .v (iv m1)), (6, .v (iv d0)), (7, .v (iv t)), (8, .v (.bool ((A.take j).any fun u => u.1 == t))), (9, .v (iv j))]) (fun _ => [(0, .cells [.v (iv days), .v (iv shift), .v (iv size), .v (.slice to T.length tc), .v (.slice lo L.length lc)] 25)]) (fun j => j ≤ A.length) (fun j => A.length - j) 0 (Nat.zero_le _) ⟨rfl, rfl, rfl, rfl, rfl, rfl, rfl, trivial⟩ ⟨rfl, trivial⟩ (fun _ => ⟨rfl, rfl⟩) ?_
      intro j hj
      rcases Nat.lt_or_ge j A.length with hjl | hjl
      · obtain ⟨⟨a, b, l0⟩, hu⟩ : ∃ u, A[j]? = some u := ⟨_, List.getElem?_eq_getElem hjl⟩
        obtain ⟨_, ad, rfl, _⟩ := hS.r.ptr (by omega)
        have hsr := hS.r
        rw [hsl] at hsr
        have e0 := fun (w' : World) (hw' : Below w.heap.size w w') => rd_fldz (hsr.below hw') (hidx _ _ hu) (j : Int) rfl 0 (iv a) rfl
        have hnx : ((A.take (j + 1)).any fun u => u.1 == t) = (((A.take j).any fun u => u.1 == t) || decide (a = t)) := by
          rw [take_snoc hu, List.any_append]
          simp only [List.any_cons, List.any_nil, Bool.or_false]
          rfl
        generalize ((A.take j).any fun u => u.1 == t) = bj at *
        cases bj with
        | true =>
          repeat'
           conv => whnf
           first
            | refine zA ?_ | refine zB ?_ | refine zC ?_ | refine zD ?_ | refine zE ?_ | refine zF ?_ | refine zG ?_ | refine zH ?_ | refine zJ ?_ | refine zI ?_ | refine splT ?_ | refine splF ?_ | refine splNot ?_
            | ((first | refine splIn (fun hc => ?_) (fun hc => ?_) | refine splD (fun hc => ?_) (fun hc => ?_) | refine splE (fun hc => ?_) (fun hc => ?_) | refine splNE (fun hc => ?_) (fun hc => ?_)) <;> first | (exfalso; omega) | (exfalso; dsimp only at hc; omega) | skip)
          all_goals first | (exfalso; omega) | exact ⟨j + 1, by omega, by omega, Ent.weak rfl ⟨rfl, rfl, rfl, rfl, rfl, by rw [hnx]; rfl, rfl, trivial⟩ ⟨rfl, trivial⟩ fun w2 h => (by repeat (first | exact h | replace h := h.1))⟩
        | false =>
          by_cases hat : a = t
          · rw [decide_eq_true hat] at hnx
            repeat'
             conv => whnf
             first
              | refine zA ?_ | refine zB ?_ | refine zC ?_ | refine zD ?_ | refine zE ?_ | refine zF ?_ | refine zG ?_ | refine zH ?_ | refine zJ ?_ | refine zI ?_ | refine splT ?_ | refine splF ?_ | refine splNot ?_
              | ((first | refine splIn (fun hc => ?_) (fun hc => ?_) | refine splD (fun hc => ?_) (fun hc => ?_) | refine splE (fun hc => ?_) (fun hc => ?_) | refine splNE (fun hc => ?_) (fun hc => ?_)) <;> first | (exfalso; omega) | (exfalso; dsimp only at hc; omega) | skip)
              | refine Exists.intro (α := List Value) [iv a] ⟨⟨rfl, fun w' hw' => e0 w' (by repeat (first | exact hw' | replace hw' := hw'.1))⟩, ?_⟩
            all_goals first | (exfalso; omega) | exact ⟨j + 1, by omega, by omega, Ent.weak rfl ⟨rfl, rfl, rfl, rfl, rfl, by rw [hnx]; first | rfl | (rw [show ((a : Int) == (t : Int)) = true from by rw [beq_iff_eq]; omega]; rfl), rfl, trivial⟩ ⟨rfl, trivial⟩ fun w2 h => (by repeat (first | exact h | replace h := h.1))⟩
          · rw [decide_eq_false hat] at hnx
            repeat'
             conv => whnf
             first
              | refine zA ?_ | refine zB ?_ | refine zC ?_ | refine zD ?_ | refine zE ?_ | refine zF ?_ | refine zG ?_ | refine zH ?_ | refine zJ ?_ | refine zI ?_ | refine splT ?_ | refine splF ?_ | refine splNot ?_
              | ((first | refine splIn (fun hc => ?_) (fun hc => ?_) | refine splD (fun hc => ?_) (fun hc => ?_) | refine splE (fun hc => ?_) (fun hc => ?_) | refine splNE (fun hc => ?_) (fun hc => ?_)) <;> first | (exfalso; omega) | (exfalso; dsimp only at hc; omega) | skip)
              | refine Exists.intro (α := List Value) [iv a] ⟨⟨rfl, fun w' hw' => e0 w' (by repeat (first | exact hw' | replace hw' := hw'.1))⟩, ?_⟩
            all_goals first | (exfalso; omega) | exact ⟨j + 1, by omega, by omega, Ent.weak rfl ⟨rfl, rfl, rfl, rfl, rfl, by rw [hnx]; first | rfl | (rw [show ((a : Int) == (t : Int)) = false from by rw [beq_eq_false_iff_ne]; omega]; rfl), rfl, trivial⟩ ⟨rfl, trivial⟩ fun w2 h => (by repeat (first | exact h | replace h := h.1))⟩
      · obtain rfl : j = A.length := by omega
        rw [List.take_length, ← hbit t]
        have hbt := fun u hu => (hstep u hu).2.2.2.2
        generalize hgb : (aft (0, 0, 0) A).1.testBit t = bt at *
        cases bt with
        | true =>
          have hnext : OptB (Tr.d ⟨days, shift, size, to, tc, T, lo, lc, L⟩) A (t + 1, 0, 0) m1 := opt_mono hq1 fun u hu hb => by
            have h1 := hbt u hu
            unfold bef at hb ⊢
            dsimp only at hb ⊢
            rcases (by omega : u.1 < t ∨ u.1 = t) with h2 | h2
            · exact .inl h2
            · rw [h2, hgb] at h1; cases h1
          repeat'
           conv => whnf
           first
            | refine zA ?_ | refine zB ?_ | refine zC ?_ | refine zD ?_ | refine zE ?_ | refine zF ?_ | refine zG ?_ | refine zH ?_ | refine zJ ?_ | refine zI ?_ | refine splT ?_ | refine splF ?_ | refine splNot ?_
            | ((first | refine splIn (fun hc => ?_) (fun hc => ?_) | refine splD (fun hc => ?_) (fun hc => ?_) | refine splE (fun hc => ?_) (fun hc => ?_) | refine splNE (fun hc => ?_) (fun hc => ?_)) <;> first | (exfalso; omega) | (exfalso; dsimp only at hc; omega) | skip)
          all_goals first | (exfalso; omega) | skip
          refine loopE (fun _ : Unit => [(1, .v (.slice o A.length c)), (2, .ptr 0 0), (5, .v (iv m1)), (6, .v (iv d0)), (7, .v (iv t)), (8, .v (.bool true)), (10, .v (iv d0))]) (fun _ => [(0, .cells [.v (iv days), .v (iv shift), .v (iv size), .v (.slice to T.length tc), .v (.slice lo L.length lc)] 25)]) (fun _ => True) (fun _ => 0) () trivial ⟨rfl, rfl, rfl, rfl, rfl, rfl, rfl, trivial⟩ ⟨rfl, trivial⟩ (fun _ => ⟨rfl, rfl⟩) ?_
          intro _ _
          repeat'
           conv => whnf
           first
            | refine zA ?_ | refine zB ?_ | refine zC ?_ | refine zD ?_ | refine zE ?_ | refine zF ?_ | refine zG ?_ | refine zH ?_ | refine zJ ?_ | refine zI ?_ | refine splT ?_ | refine splF ?_ | refine splNot ?_
            | ((first | refine splIn (fun hc => ?_) (fun hc => ?_) | refine splD (fun hc => ?_) (fun hc => ?_) | refine splE (fun hc => ?_) (fun hc => ?_) | refine splNE (fun hc => ?_) (fun hc => ?_)) <;> first | (exfalso; omega) | (exfalso; dsimp only at hc; omega) | skip)
          all_goals first | (exfalso; omega) | exact ⟨(t + 1, m1), ⟨hnext, by omega⟩, by dsimp only; omega, Ent.weak rfl ⟨rfl, rfl, rfl, rfl, rfl, trivial⟩ ⟨rfl, trivial⟩ fun w2 h => (by repeat (first | exact h | replace h := h.1))⟩
        | false =>
          have hq0 : OptB (Tr.d ⟨days, shift, size, to, tc, T, lo, lc, L⟩) A (t, d0, 0) m1 := opt_mono hq1 fun u hu hb => by
            have h1 := (hstep u hu).2.1
            unfold bef at hb ⊢
            dsimp only at hb ⊢
            omega
          repeat'
           conv => whnf
           first
            | refine zA ?_ | refine zB ?_ | refine zC ?_ | refine zD ?_ | refine zE ?_ | refine zF ?_ | refine zG ?_ | refine zH ?_ | refine zJ ?_ | refine zI ?_ | refine splT ?_ | refine splF ?_ | refine splNot ?_
            | ((first | refine splIn (fun hc => ?_) (fun hc => ?_) | refine splD (fun hc => ?_) (fun hc => ?_) | refine splE (fun hc => ?_) (fun hc => ?_) | refine splNE (fun hc => ?_) (fun hc => ?_)) <;> first | (exfalso; omega) | (exfalso; dsimp only at hc; omega) | skip)
          all_goals first | (exfalso; omega) | skip
          refine loopE (fun q : Nat × Int => [(1, .v (.slice o A.length c)), (2, .ptr 0 0), (5, .v (iv q.2)), (6, .v (iv d0)), (7, .v (iv t)), (8, .v (.bool false)), (10, .v (iv q.1))]) (fun _ => [(0, .cells [.v (iv days), .v (iv shift), .v (iv size), .v (.slice to T.length tc), .v (.slice lo L.length lc)] 25)]) (fun q => OptB (Tr.d ⟨days, shift, size, to, tc, T, lo, lc, L⟩) A (t, q.1, 0) q.2 ∧ (d0 ≤ q.1 ∧ q.1 ≤ 60)) (fun q => 60 - q.1) (d0, m1) ⟨hq0, by omega⟩ ⟨rfl, rfl, rfl, rfl, rfl, rfl, rfl, trivial⟩ ⟨rfl, trivial⟩ (fun _ => ⟨rfl, rfl⟩) ?_
          intro ⟨f, m2⟩ ⟨hf1, hf2⟩
          dsimp only at hf1 hf2 ⊢
          rcases Int.lt_or_le (f : Int) days with hfl | hfl
          · have hl0 : OptB (Tr.d ⟨days, shift, size, to, tc, T, lo, lc, L⟩) A (t, f, f) m2 := opt_mono hf1 fun u hu hb => by
              have h1 := (hstep u hu).2.2.1
              unfold bef at hb ⊢
              dsimp only at hb ⊢
              omega
            repeat'
             conv => whnf
             first
              | refine zA ?_ | refine zB ?_ | refine zC ?_ | refine zD ?_ | refine zE ?_ | refine zF ?_ | refine zG ?_ | refine zH ?_ | refine zJ ?_ | refine zI ?_ | refine splT ?_ | refine splF ?_ | refine splNot ?_
              | ((first | refine splIn (fun hc => ?_) (fun hc => ?_) | refine splD (fun hc => ?_) (fun hc => ?_) | refine splE (fun hc => ?_) (fun hc => ?_) | refine splNE (fun hc => ?_) (fun hc => ?_)) <;> first | (exfalso; omega) | (exfalso; dsimp only at hc; omega) | skip)
            all_goals first | (exfalso; omega) | skip
            refine loopE (fun q : Nat × Int => [(1, .v (.slice o A.length c)), (2, .ptr 0 0), (5, .v (iv q.2)), (6, .v (iv d0)), (7, .v (iv t)), (8, .v (.bool false)), (10, .v (iv f)), (11, .v (iv q.1))]) (fun _ => [(0, .cells [.v (iv days), .v (iv shift), .v (iv size), .v (.slice to T.length tc), .v (.slice lo L.length lc)] 25)]) (fun q => OptB (Tr.d ⟨days, shift, size, to, tc, T, lo, lc, L⟩) A (t, f, q.1) q.2 ∧ (f ≤ q.1 ∧ q.1 ≤ f + 10)) (fun q => f + 10 - q.1) (f, m2) ⟨hl0, by omega⟩ ⟨rfl, rfl, rfl, rfl, rfl, rfl, rfl, rfl, trivial⟩ ⟨rfl, trivial⟩ (fun _ => ⟨rfl, rfl⟩) ?_
            intro ⟨l, m3⟩ ⟨hl1, hl2⟩
            dsimp only at hl1 hl2 ⊢
            have hmn := imin_eq days ((f : Int) + 10)
            rcases (by omega : ((l : Int) < days ∧ l < f + 10) ∨ ¬ ((l : Int) < days ∧ l < f + 10)) with hll | hll
            · have hsp100 : SpN 100 ((A ++ [(t, f, l)]).map toI) := fun s hs => by
                rw [List.map_append, List.mem_append] at hs
                rcases hs with hs | hs
                · exact hspA s hs
                · rw [List.map_cons, List.map_nil, List.mem_singleton] at hs
                  exact ⟨t, f, l, hs, by omega, by omega, by omega⟩
              have hln : ((A ++ [(t, f, l)]).map toI).length = A.length + 1 := by simp
              have hXs : ((A ++ [(t, f, l)]).map toI).flatMap spF = (A.map toI).flatMap spF ++ [iv t, iv f, iv l] := by simp [toI]
              have h63t := fun N hN o' c' w' hb hS' => h63 t f l N hN o' c' w' hb hS' (by omega)
              have hstp2 := hstp t f l
              have hfl7 := fltO_le (Tr.d ⟨days, shift, size, to, tc, T, lo, lc, L⟩) ((A ++ [(t, f, l)]).map toI) A.length t f l 7
              by_cases hSt : Stp (Tr.d ⟨days, shift, size, to, tc, T, lo, lc, L⟩) (aft (0, 0, 0) A) (t, f, l)
              · have h27t := fun N hN o' c' w' hb hS' => h27 t f l N hN o' c' w' hSt hb hS'
                have hF := hstp2.2 hSt
                have hy := fun (r : {r : Int // OptR (Tr.d ⟨days, shift, size, to, tc, T, lo, lc, L⟩) (A ++ [(t, f, l)]) r}) => opt_yes hl1 hSt r.2
                generalize fltO (Tr.d ⟨days, shift, size, to, tc, T, lo, lc, L⟩) ((A ++ [(t, f, l)]).map toI) A.length t f l 7 = FV at *
                clear h63 h27 hstp
                rcases Nat.eq_zero_or_pos A.length with hz | hz
                · have hAe : A = [] := List.length_eq_zero_iff.1 hz
                  obtain ⟨rfl, rfl⟩ := hA0 hAe
                  subst hAe
                  repeat'
                   conv => whnf
                   first
                    | refine zA ?_ | refine zB ?_ | refine zC ?_ | refine zD ?_ | refine zE ?_ | refine zF ?_ | refine zG ?_ | refine zH ?_ | refine zJ ?_ | refine zI ?_ | refine splT ?_ | refine splF ?_ | refine splNot ?_
                    | ((first | refine splIn (fun hc => ?_) (fun hc => ?_) | refine splD (fun hc => ?_) (fun hc => ?_) | refine splE (fun hc => ?_) (fun hc => ?_) | refine splNE (fun hc => ?_) (fun hc => ?_)) <;> first | (exfalso; omega) | (exfalso; dsimp only at hc; omega) | skip)
                    | ((with_reducible show CallEv _ _ 63 _ _ _ _ _); refine callM (k := 63) [3] (fun β w' hbk hbw => h63t _ (by first | rfl | omega) (some ⟨β 3, 0, none⟩) (β 4) w' (by repeat (first | exact hbw | replace hbw := hbw.1)) (own_spin (hbk 3 (by simp) _ rfl) rfl (by simp [toI]) (by simp) hsp100)) ?_)
                    | ((with_reducible show CallEv _ _ 27 _ _ _ _ _); refine callF [3] (fun r : {r : Int // OptR (Tr.d ⟨days, shift, size, to, tc, T, lo, lc, L⟩) ([] ++ [(t, f, l)]) r} => iv r.1) (fun _ _ => True) (fun β w' hbk hbw => h27t _ (by first | rfl | omega) (some ⟨β 3, 0, none⟩) (β 4) w' (by repeat (first | exact hbw | replace hbw := hbw.1)) (own_spin (hbk 3 (by simp) _ rfl) rfl (by simp [toI]) (by simp) hsp100)) ?_; intro r)
                  all_goals first | (exfalso; omega) | exact ⟨(l + 1, imax m3 (by assumption : {r : Int // OptR (Tr.d ⟨days, shift, size, to, tc, T, lo, lc, L⟩) ([] ++ [(t, f, l)]) r}).1), ⟨hy _, by omega⟩, by dsimp only; omega, Ent.weak rfl ⟨rfl, rfl, rfl, rfl, rfl, rfl, rfl, rfl, trivial⟩ ⟨rfl, trivial⟩ fun w2 h => (by repeat (first | exact h | replace h := h.1))⟩
                · obtain ⟨_, ad, rfl, _⟩ := hS.r.ptr (by omega)
                  have hsr := hS.r
                  rw [hsl] at hsr
                  have heX := fun (w' : World) (hb : Below w.heap.size w w') => Rd.ext (f := spF) (sz := 3) (fun _ => rfl) (hsr.below hb)
                  have hlX : ((A.map toI).flatMap spF).length = A.length * 3 := by rw [lenS, hsl]
                  have honX : ∀ v ∈ (A.map toI).flatMap spF, v.oneCell' = true := fun v hv => by
                    obtain ⟨a, _, ha⟩ := List.mem_flatMap.1 hv
                    simp only [spF, List.mem_cons, List.not_mem_nil, or_false] at ha
                    rcases ha with rfl | rfl | rfl <;> rfl
                  generalize (A.map toI).flatMap spF = X at *
                  generalize A.length = nA at *
                  repeat'
                   conv => whnf
                   first
                    | refine zA ?_ | refine zB ?_ | refine zC ?_ | refine zD ?_ | refine zE ?_ | refine zF ?_ | refine zG ?_ | refine zH ?_ | refine zJ ?_ | refine zI ?_ | refine splT ?_ | refine splF ?_ | refine splNot ?_
                    | ((first | refine splIn (fun hc => ?_) (fun hc => ?_) | refine splD (fun hc => ?_) (fun hc => ?_) | refine splE (fun hc => ?_) (fun hc => ?_) | refine splNE (fun hc => ?_) (fun hc => ?_)) <;> first | (exfalso; omega) | (exfalso; dsimp only at hc; omega) | skip)
                    | refine Exists.intro (α := List Value) X ⟨⟨hlX, fun w' hw' => heX w' (by repeat (first | exact hw' | replace hw' := hw'.1)), honX⟩, ?_⟩
                    | ((with_reducible show CallEv _ _ 63 _ _ _ _ _); refine callM (k := 63) [5] (fun β w' hbk hbw => h63t _ (by first | rfl | omega) (some ⟨β 5, 0, none⟩) (β 6) w' (by repeat (first | exact hbw | replace hbw := hbw.1)) (own_spin (hbk 5 (by simp) _ rfl) (by omega) hXs.symm (by omega) hsp100)) ?_)
                    | ((with_reducible show CallEv _ _ 27 _ _ _ _ _); refine callF [5] (fun r : {r : Int // OptR (Tr.d ⟨days, shift, size, to, tc, T, lo, lc, L⟩) (A ++ [(t, f, l)]) r} => iv r.1) (fun _ _ => True) (fun β w' hbk hbw => h27t _ (by first | rfl | omega) (some ⟨β 5, 0, none⟩) (β 6) w' (by repeat (first | exact hbw | replace hbw := hbw.1)) (own_spin (hbk 5 (by simp) _ rfl) (by omega) hXs.symm (by omega) hsp100)) ?_; intro r)
                  all_goals first | (exfalso; omega) | exact ⟨(l + 1, imax m3 (by assumption : {r : Int // OptR (Tr.d ⟨days, shift, size, to, tc, T, lo, lc, L⟩) (A ++ [(t, f, l)]) r}).1), ⟨hy _, by omega⟩, by dsimp only; omega, Ent.weak rfl ⟨rfl, rfl, rfl, rfl, rfl, rfl, rfl, rfl, trivial⟩ ⟨rfl, trivial⟩ fun w2 h => (by repeat (first | exact h | replace h := h.1))⟩
              · have hF : ¬ (fltO (Tr.d ⟨days, shift, size, to, tc, T, lo, lc, L⟩) ((A ++ [(t, f, l)]).map toI) A.length t f l 7 = 0 ∨ fltO (Tr.d ⟨days, shift, size, to, tc, T, lo, lc, L⟩) ((A ++ [(t, f, l)]).map toI) A.length t f l 7 = 7) := fun h => hSt (hstp2.1 h)
                have hy := opt_no hl1 hSt
                generalize fltO (Tr.d ⟨days, shift, size, to, tc, T, lo, lc, L⟩) ((A ++ [(t, f, l)]).map toI) A.length t f l 7 = FV at *
                clear h63 h27 hstp hstp2
                rcases Nat.eq_zero_or_pos A.length with hz | hz
                · have hAe : A = [] := List.length_eq_zero_iff.1 hz
                  obtain ⟨rfl, rfl⟩ := hA0 hAe
                  subst hAe
                  repeat'
                   conv => whnf
                   first
                    | refine zA ?_ | refine zB ?_ | refine zC ?_ | refine zD ?_ | refine zE ?_ | refine zF ?_ | refine zG ?_ | refine zH ?_ | refine zJ ?_ | refine zI ?_ | refine splT ?_ | refine splF ?_ | refine splNot ?_
                    | ((first | refine splIn (fun hc => ?_) (fun hc => ?_) | refine splD (fun hc => ?_) (fun hc => ?_) | refine splE (fun hc => ?_) (fun hc => ?_) | refine splNE (fun hc => ?_) (fun hc => ?_)) <;> first | (exfalso; omega) | (exfalso; dsimp only at hc; omega) | skip)
                    | ((with_reducible show CallEv _ _ 63 _ _ _ _ _); refine callM (k := 63) [3] (fun β w' hbk hbw => h63t _ (by first | rfl | omega) (some ⟨β 3, 0, none⟩) (β 4) w' (by repeat (first | exact hbw | replace hbw := hbw.1)) (own_spin (hbk 3 (by simp) _ rfl) rfl (by simp [toI]) (by simp) hsp100)) ?_)
                  all_goals first | (exfalso; omega) | exact ⟨(l + 1, m3), ⟨hy, by omega⟩, by dsimp only; omega, Ent.weak rfl ⟨rfl, rfl, rfl, rfl, rfl, rfl, rfl, rfl, trivial⟩ ⟨rfl, trivial⟩ fun w2 h => (by repeat (first | exact h | replace h := h.1))⟩
                · obtain ⟨_, ad, rfl, _⟩ := hS.r.ptr (by omega)
                  have hsr := hS.r
                  rw [hsl] at hsr
                  have heX := fun (w' : World) (hb : Below w.heap.size w w') => Rd.ext (f := spF) (sz := 3) (fun _ => rfl) (hsr.below hb)
                  have hlX : ((A.map toI).flatMap spF).length = A.length * 3 := by rw [lenS, hsl]
                  have honX : ∀ v ∈ (A.map toI).flatMap spF, v.oneCell' = true := fun v hv => by
                    obtain ⟨a, _, ha⟩ := List.mem_flatMap.1 hv
                    simp only [spF, List.mem_cons, List.not_mem_nil, or_false] at ha
                    rcases ha with rfl | rfl | rfl <;> rfl
                  generalize (A.map toI).flatMap spF = X at *
                  generalize A.length = nA at *
                  repeat'
                   conv => whnf
                   first
                    | refine zA ?_ | refine zB ?_ | refine zC ?_ | refine zD ?_ | refine zE ?_ | refine zF ?_ | refine zG ?_ | refine zH ?_ | refine zJ ?_ | refine zI ?_ | refine splT ?_ | refine splF ?_ | refine splNot ?_
                    | ((first | refine splIn (fun hc => ?_) (fun hc => ?_) | refine splD (fun hc => ?_) (fun hc => ?_) | refine splE (fun hc => ?_) (fun hc => ?_) | refine splNE (fun hc => ?_) (fun hc => ?_)) <;> first | (exfalso; omega) | (exfalso; dsimp only at hc; omega) | skip)
                    | refine Exists.intro (α := List Value) X ⟨⟨hlX, fun w' hw' => heX w' (by repeat (first | exact hw' | replace hw' := hw'.1)), honX⟩, ?_⟩
                    | ((with_reducible show CallEv _ _ 63 _ _ _ _ _); refine callM (k := 63) [5] (fun β w' hbk hbw => h63t _ (by first | rfl | omega) (some ⟨β 5, 0, none⟩) (β 6) w' (by repeat (first | exact hbw | replace hbw := hbw.1)) (own_spin (hbk 5 (by simp) _ rfl) (by omega) hXs.symm (by omega) hsp100)) ?_)
                  all_goals first | (exfalso; omega) | exact ⟨(l + 1, m3), ⟨hy, by omega⟩, by dsimp only; omega, Ent.weak rfl ⟨rfl, rfl, rfl, rfl, rfl, rfl, rfl, rfl, trivial⟩ ⟨rfl, trivial⟩ fun w2 h => (by repeat (first | exact h | replace h := h.1))⟩
            · have hnext : OptB (Tr.d ⟨days, shift, size, to, tc, T, lo, lc, L⟩) A (t, f + 1, 0) m3 := opt_mono hl1 fun u hu hb => by
                have h1 := (hstep u hu).2.2
                unfold bef at hb ⊢
                dsimp only at hb ⊢
                omega
              repeat'
               conv => whnf
               first
                | refine zA ?_ | refine zB ?_ | refine zC ?_ | refine zD ?_ | refine zE ?_ | refine zF ?_ | refine zG ?_ | refine zH ?_ | refine zJ ?_ | refine zI ?_ | refine splT ?_ | refine splF ?_ | refine splNot ?_
                | ((first | refine splIn (fun hc => ?_) (fun hc => ?_) | refine splD (fun hc => ?_) (fun hc => ?_) | refine splE (fun hc => ?_) (fun hc => ?_) | refine splNE (fun hc => ?_) (fun hc => ?_)) <;> first | (exfalso; omega) | (exfalso; dsimp only at hc; omega) | skip)
              all_goals first | (exfalso; omega) | exact ⟨(f + 1, m3), ⟨hnext, by omega⟩, by dsimp only; omega, Ent.weak rfl ⟨rfl, rfl, rfl, rfl, rfl, rfl, rfl, trivial⟩ ⟨rfl, trivial⟩ fun w2 h => (by repeat (first | exact h | replace h := h.1))⟩
          · have hnext : OptB (Tr.d ⟨days, shift, size, to, tc, T, lo, lc, L⟩) A (t + 1, 0, 0) m2 := opt_mono hf1 fun u hu hb => by
              have h1 := (hstep u hu).2.2
              unfold bef at hb ⊢
              dsimp only at hb ⊢
              omega
            repeat'
             conv => whnf
             first
              | refine zA ?_ | refine zB ?_ | refine zC ?_ | refine zD ?_ | refine zE ?_ | refine zF ?_ | refine zG ?_ | refine zH ?_ | refine zJ ?_ | refine zI ?_ | refine splT ?_ | refine splF ?_ | refine splNot ?_
              | ((first | refine splIn (fun hc => ?_) (fun hc => ?_) | refine splD (fun hc => ?_) (fun hc => ?_) | refine splE (fun hc => ?_) (fun hc => ?_) | refine splNE (fun hc => ?_) (fun hc => ?_)) <;> first | (exfalso; omega) | (exfalso; dsimp only at hc; omega) | skip)
            all_goals first | (exfalso; omega) | exact ⟨(t + 1, m2), ⟨hnext, by omega⟩, by dsimp only; omega, Ent.weak rfl ⟨rfl, rfl, rfl, rfl, rfl, trivial⟩ ⟨rfl, trivial⟩ fun w2 h => (by repeat (first | exact h | replace h := h.1))⟩
    · obtain rfl : t = T.length := by omega
      have hfin : OptR (Tr.d ⟨days, shift, size, to, tc, T, lo, lc, L⟩) A m1 := opt_end hq1 fun u hu => .inl (hstep u hu).1.2
      repeat'
       conv => whnf
       first
        | refine zA ?_ | refine zB ?_ | refine zC ?_ | refine zD ?_ | refine zE ?_ | refine zF ?_ | refine zG ?_ | refine zH ?_ | refine zJ ?_ | refine zI ?_ | refine splT ?_ | refine splF ?_ | refine splNot ?_
        | ((first | refine splIn (fun hc => ?_) (fun hc => ?_) | refine splD (fun hc => ?_) (fun hc => ?_) | refine splE (fun hc => ?_) (fun hc => ?_) | refine splNE (fun hc => ?_) (fun hc => ?_)) <;> first | (exfalso; omega) | (exfalso; dsimp only at hc; omega) | skip)
      all_goals first | (exfalso; omega) | exact ⟨fun w' h => (by repeat (first | exact h | replace h := h.1)), fun β w' h hblk => ⟨⟨m1, hfin⟩, rfl, fun _ _ => trivial⟩⟩
end Go.Proofs.Ythfabodamhdhaaa
