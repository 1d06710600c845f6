/- The load of a flight: what Load returns. -/
import Derived.Test.YtfbokllafdnglaaQE
namespace Go.Proofs.Ytfbokllafdnglaa
open Go Tx Go.RowKit
set_option linter.unusedSimpArgs false
set_option linter.unusedVariables false

def gr (xs : List Int) : Int := xs.foldl (fun n x => imax (imax n x) (-x)) 0
theorem gr_snoc (xs : List Int) (x : Int) : gr (xs ++ [x]) = imax (imax (gr xs) x) (-x) := by simp [gr]
theorem gr_take {xs : List Int} {k : Nat} {x : Int} (h : xs[k]? = some x) : gr (xs.take (k + 1)) = imax (imax (gr (xs.take k)) x) (-x) := by
  rw [List.take_add_one, h, Option.toList_some, gr_snoc]

theorem imax_be {a b B : Int} (ha : a ≤ B) (hb : b ≤ B) : imax a b ≤ B := by unfold imax; split <;> omega
theorem imax_lq (a b : Int) : a ≤ imax a b := by unfold imax; split <;> omega
theorem gr_bd (xs : List Int) (B : Int) (h0 : 0 ≤ B) (h : ∀ x ∈ xs, -B ≤ x ∧ x ≤ B) : 0 ≤ gr xs ∧ gr xs ≤ B := by
  have key : ∀ (l : List Int) (n : Int), 0 ≤ n → n ≤ B → (∀ x ∈ l, -B ≤ x ∧ x ≤ B) → 0 ≤ l.foldl (fun n x => imax (imax n x) (-x)) n ∧ l.foldl (fun n x => imax (imax n x) (-x)) n ≤ B := by
    intro l
    induction l with
    | nil => intro n h1 h2 _; exact ⟨h1, h2⟩
    | cons x r ih =>
      intro n h1 h2 h
      have hx := h x List.mem_cons_self
      rw [List.foldl_cons]
      refine ih _ ?_ (imax_be (imax_be h2 hx.2) (by omega)) fun y hy => h y (List.mem_cons_of_mem _ hy)
      exact Int.le_trans (Int.le_trans h1 (imax_lq n x)) (imax_lq _ _)
  exact key xs 0 (Int.le_refl 0) h0 h
theorem sunk_ok (a b n : Int) (w : World) (h : (-1000000000 ≤ a ∧ a ≤ 1000000000) ∧ (-1000000000 ≤ b ∧ b ≤ 1000000000) ∧ (-1000000000 ≤ n ∧ n ≤ 1000000000)) : Calls Try.prog 82 #[.agg #[iv a, iv b], iv n] w fun e w' => e = .returned (.agg #[iv (a - n), iv (b - n)]) ∧ Below w.heap.size w w' := by
  refine calls_val env mixed Try.func82 has82 Try.ntmps82 [.agg #[iv a, iv b], iv n] (by simp) ?_
  repeat'
   conv => whnf
   first
    | refine zA ?_ | refine zB ?_ | refine zC ?_ | refine zD ?_ | refine zE ?_ | refine zF ?_ | refine zG ?_ | refine zH ?_ | refine zJ ?_ | refine zI ?_ | refine splT ?_ | refine splF ?_ | refine splNot ?_
    | ((first | refine splIn (fun hc => ?_) (fun hc => ?_) | refine splD (fun hc => ?_) (fun hc => ?_) | refine splE (fun hc => ?_) (fun hc => ?_) | refine splNE (fun hc => ?_) (fun hc => ?_)) <;> first | (exfalso; omega) | (exfalso; dsimp only at hc; omega) | skip)
  all_goals first | (exfalso; omega) | exact ⟨fun β => rfl, fun w' h => h⟩
theorem greatest_ok (ad : Addr) (c : Nat) (xs : List Int) (w : World) (hr : Rd 1 iF (.slice (some ad) xs.length c) xs w) (hl : xs.length ≤ 1000000) (hb : ∀ x ∈ xs, -1000000000000 ≤ x ∧ x ≤ 1000000000000) :
    Calls Try.prog 83 #[.slice (some ad) xs.length c] w fun e w' => e = .returned (iv (gr xs)) ∧ Below w.heap.size w w' := by
  refine calls_val env mixed Try.func83 has83 Try.ntmps83 [.slice (some ad) xs.length c] (by simp) ?_
  repeat'
   conv => whnf
   first
    | refine zA ?_ | refine zB ?_ | refine zC ?_ | refine zD ?_ | refine zE ?_ | refine zF ?_ | refine zG ?_ | refine zH ?_ | refine zJ ?_ | refine zI ?_ | refine splT ?_ | refine splF ?_ | refine splNot ?_
    | ((first | refine splIn (fun hc => ?_) (fun hc => ?_) | refine splD (fun hc => ?_) (fun hc => ?_) | refine splE (fun hc => ?_) (fun hc => ?_) | refine splNE (fun hc => ?_) (fun hc => ?_)) <;> first | (exfalso; omega) | (exfalso; dsimp only at hc; omega) | skip)
  refine loopE (fun k : Nat => [(2, .v (iv (gr (xs.take k)))), (5, .v (.slice (some ad) xs.length c)), (6, .v (iv xs.length)), (7, .v (iv k))]) (fun _ => [])
    (fun k => k ≤ xs.length) (fun k => xs.length - k) 0 (Nat.zero_le _) ⟨rfl, rfl, rfl, rfl, trivial⟩ trivial (fun _ => ⟨rfl, rfl⟩) ?_
  intro k hk
  rcases Nat.lt_or_ge k xs.length with hkl | hkl
  · obtain ⟨x, hx⟩ : ∃ b, xs[k]? = some b := ⟨_, List.getElem?_eq_getElem hkl⟩
    have hbx := hb x (List.mem_of_getElem? hx)
    have e0 := fun (w' : World) hw' => rd_ati (hr.below (w' := w') hw') hx
    have hg := gr_take hx
    repeat'
     conv => whnf
     first
      | refine zA ?_ | refine zB ?_ | refine zC ?_ | refine zD ?_ | refine zE ?_ | refine zF ?_ | refine zG ?_ | refine zH ?_ | refine zJ ?_ | refine zI ?_ | refine splT ?_ | refine splF ?_ | refine splNot ?_
      | ((first | refine splIn (fun hc => ?_) (fun hc => ?_) | refine splD (fun hc => ?_) (fun hc => ?_) | refine splE (fun hc => ?_) (fun hc => ?_) | refine splNE (fun hc => ?_) (fun hc => ?_)) <;> first | (exfalso; omega) | (exfalso; dsimp only at hc; omega) | skip)
      | refine Exists.intro (α := List Value) [iv x] ⟨⟨rfl, fun w' hw' => e0 w' hw'⟩, ?_⟩
    all_goals first | (exfalso; omega) | exact ⟨k + 1, by omega, by omega, Ent.weak rfl ⟨by rw [hg]; rfl, rfl, rfl, rfl, trivial⟩ trivial fun _ h => h⟩
  · rw [List.take_of_length_le hkl]
    repeat'
     conv => whnf
     first
      | refine zA ?_ | refine zB ?_ | refine zC ?_ | refine zD ?_ | refine zE ?_ | refine zF ?_ | refine zG ?_ | refine zH ?_ | refine zJ ?_ | refine zI ?_ | refine splT ?_ | refine splF ?_ | refine splNot ?_
      | ((first | refine splIn (fun hc => ?_) (fun hc => ?_) | refine splD (fun hc => ?_) (fun hc => ?_) | refine splE (fun hc => ?_) (fun hc => ?_) | refine splNE (fun hc => ?_) (fun hc => ?_)) <;> first | (exfalso; omega) | (exfalso; dsimp only at hc; omega) | skip)
    all_goals first | (exfalso; omega) | exact ⟨fun β => rfl, fun w' h => h⟩
/-- The sizes of the speeds, and what is borne after t ticks. -/
def spdL (s : Bx) (t : Int) : List Int := [s.a, s.b, s.c - 98 * t, s.d - 98 * t]
def ldQ (s : Bx) (so t : Int) : Int := (gr (spdL s t) + so - 1) / so
def ldF (f : Ft) (t : Int) : Int := f.m * (98 + ldQ f.s f.so t)
theorem spdL_bd {s : Bx} {t : Int} (h : bxB s 10000 = true) (ht : 0 ≤ t ∧ t ≤ 300) : ∀ x ∈ spdL s t, -40000 ≤ x ∧ x ≤ 40000 := by
  rw [bxB_iff] at h
  intro x hx
  simp only [spdL, List.mem_cons, List.not_mem_nil, or_false] at hx
  rcases hx with rfl | rfl | rfl | rfl <;> omega
theorem ldQ_bd {s : Bx} {so t : Int} (h : bxB s 10000 = true) (ht : 0 ≤ t ∧ t ≤ 300) (hs : 1 ≤ so) : 0 ≤ ldQ s so t ∧ ldQ s so t ≤ 40000 := by
  obtain ⟨h1, h2⟩ := gr_bd (spdL s t) 40000 (by omega) (spdL_bd h ht)
  unfold ldQ
  refine ⟨Int.ediv_nonneg (by omega) (by omega), ?_⟩
  generalize gr (spdL s t) = g at *
  have : g + so - 1 < (40000 + 1) * so := by
    have := Int.mul_le_mul_of_nonneg_left hs (show (0 : Int) ≤ 40000 by omega)
    have e : (40000 + 1) * so = 40000 * so + so := by rw [Int.add_mul, Int.one_mul]
    omega
  have := Int.ediv_lt_of_lt_mul (by omega) this
  omega
theorem ldQ_soft {s : Bx} {so so' t : Int} (h : bxB s 10000 = true) (ht : 0 ≤ t ∧ t ≤ 300) (hs : 1 ≤ so) (hss : so ≤ so') : ldQ s so' t ≤ ldQ s so t := by
  obtain ⟨h1, _⟩ := gr_bd (spdL s t) 40000 (by omega) (spdL_bd h ht)
  obtain ⟨q1, _⟩ := ldQ_bd h ht hs
  unfold ldQ at *
  generalize gr (spdL s t) = g at *
  -- g ≤ so * q, so g + so' - 1 < (q + 1) * so'
  generalize hq : (g + so - 1) / so = q at *
  have h3 : g + so - 1 < (q + 1) * so := by
    rw [← hq]; exact Int.lt_ediv_add_one_mul_self _ (by omega)
  have h4 : g ≤ q * so := by rw [Int.add_mul, Int.one_mul] at h3; omega
  have h5 : q * so ≤ q * so' := Int.mul_le_mul_of_nonneg_left hss q1
  have h6 : g + so' - 1 < (q + 1) * so' := by rw [Int.add_mul, Int.one_mul]; omega
  have := Int.ediv_lt_of_lt_mul (by omega) h6
  omega
set_option maxHeartbeats 4000000 in
set_option maxRecDepth 100000 in
theorem load_ok (f : Ft) (y : Option Addr × Nat) (t : Int) (w : World) (h : ftB f = true) (ht : 0 ≤ t ∧ t ≤ 300) : Calls Try.prog 49 #[ftV f y, iv t] w fun e w' => e = .returned (iv (ldF f t)) ∧ Below w.heap.size w w' := by
  rw [ftB_iff] at h
  obtain ⟨p, s, m, co, cc, C, re, so, be, le, mo⟩ := f
  dsimp only at h ⊢
  obtain ⟨g1, g2, g3, g4, g5, g6, g7, g8⟩ := h
  rw [flB_iff] at g2
  have hL := spdL_bd g2.2.1 ht
  have hG := gr_bd (spdL s t) 40000 (by omega) hL
  have hQ := ldQ_bd (so := so) g2.2.1 ht g5.1
  have hs := bxB_iff.1 g2.2.1
  have c82 := fun (w' : World) => sunk_ok s.c s.d (98 * t) w' (by omega)
  have c83 := fun (b : Nat) (w' : World) (hh : w'.heap[b]? = some (.cells #[iv s.a, iv s.b, iv (s.c - 98 * t), iv (s.d - 98 * t)] 173 (0, 0))) => greatest_ok ⟨b, 0, none⟩ 4 (spdL s t) w' (Rd.of_cells (f := iF) (bs := spdL s t) (sz := 1) (fun _ => rfl) rfl hh) (by simp [spdL]) (fun x hx => by have := hL x hx; omega)
  have c83 : ∀ (b : Nat) (w' : World) (hh : w'.heap[b]? = some (.cells #[iv s.a, iv s.b, iv (s.c - 98 * t), iv (s.d - 98 * t)] 173 (0, 0))), Calls Try.prog 83 #[.slice (some ⟨b, 0, none⟩) 4 4] w' fun e w2 => e = .returned (iv (gr (spdL s t))) ∧ Below w'.heap.size w' w2 := c83
  have hm1 : 0 ≤ m * (98 + ldQ s so t) := Int.mul_nonneg (by omega) (by omega)
  have hm2 : m * (98 + ldQ s so t) ≤ 200 * 40098 := Int.mul_le_mul (by omega) (by omega) (by omega) (by omega)
  have hm : IR .i64 (m * (98 + ldQ s so t)) := ⟨by omega, by omega⟩
  unfold ldF ldQ
  unfold ldQ at hm hQ hm1 hm2
  dsimp only at hm ⊢
  generalize gr (spdL s t) = G at *
  obtain ⟨p1, p2, p3, p4⟩ := p
  obtain ⟨s1, s2, s3, s4⟩ := s
  dsimp only at hs c82 c83 ⊢
  refine calls_val env mixed Try.func49 has49 Try.ntmps49 [.agg #[iv p1, iv p2, iv p3, iv p4, iv s1, iv s2, iv s3, iv s4, iv m, sV C.length y, iv re, iv so, iv be, iv le, iv mo], iv t] (by simp) ?_
  repeat'
   conv => whnf
   first
    | refine zA ?_ | refine zB ?_ | refine zC ?_ | refine zD ?_ | refine zE ?_ | refine zF ?_ | refine zG ?_ | refine zH ?_ | refine zJ ?_ | refine zI ?_ | refine splT ?_ | refine splF ?_ | refine splNot ?_
    | ((first | refine splIn (fun hc => ?_) (fun hc => ?_) | refine splD (fun hc => ?_) (fun hc => ?_) | refine splE (fun hc => ?_) (fun hc => ?_) | refine splNE (fun hc => ?_) (fun hc => ?_)) <;> first | (exfalso; omega) | (exfalso; dsimp only at hc; omega) | skip)
    | refine And.intro (a := IR _ _) hm ?_
    | refine quoE (by omega) (by omega) (And.intro (by omega) (by omega)) ?_
    | ((with_reducible show CallEv _ _ 82 _ _ _ _ _); refine callE (k := 82) (fun β w' hbw => c82 _) ?_)
    | ((with_reducible show CallEv _ _ 83 _ _ _ _ _); refine callM (k := 83) [3] (fun β w' hbk hbw => c83 _ w' (hbk 3 (by simp) _ rfl)) ?_)
  all_goals first | (exfalso; omega) | exact ⟨fun β => rfl, fun w' h => h⟩
set_option maxHeartbeats 4000000 in
set_option maxRecDepth 100000 in
theorem Load_ok (f : Ft) (y : Option Addr × Nat) (t : Int) (w : World) (hC : Rd 4 Bx.cs (sV f.C.length y) f.C w) (h : ftB f = true) (ht : 0 ≤ t ∧ t ≤ 300) : Calls Try.prog 17 #[ftV f y, iv t] w fun e w' => e = .returned (.tuple #[iv (ldF f t), iv 0]) ∧ Below w.heap.size w w' := by
  have c47 := fun (w' : World) (hb : Below w.heap.size w w') => ftV_t f y w' (hC.below hb) h
  have c49 := fun (w' : World) => load_ok f y t w' h ht
  generalize ldF f t = D at *
  obtain ⟨⟨p1, p2, p3, p4⟩, ⟨s1, s2, s3, s4⟩, m, co, cc, C, re, so, be, le, mo⟩ := f
  refine calls_val env mixed Try.func17 has17 Try.ntmps17 [.agg #[iv p1, iv p2, iv p3, iv p4, iv s1, iv s2, iv s3, iv s4, iv m, sV C.length y, iv re, iv so, iv be, iv le, iv mo], iv t] (by simp) ?_
  repeat'
   conv => whnf
   first
    | refine zA ?_ | refine zB ?_ | refine zC ?_ | refine zD ?_ | refine zE ?_ | refine zF ?_ | refine zG ?_ | refine zH ?_ | refine zJ ?_ | refine zI ?_ | refine splT ?_ | refine splF ?_ | refine splNot ?_
    | ((first | refine splIn (fun hc => ?_) (fun hc => ?_) | refine splD (fun hc => ?_) (fun hc => ?_) | refine splE (fun hc => ?_) (fun hc => ?_) | refine splNE (fun hc => ?_) (fun hc => ?_)) <;> first | (exfalso; omega) | (exfalso; dsimp only at hc; omega) | skip)
    | ((with_reducible show CallEv _ _ 47 _ _ _ _ _); refine callE (k := 47) (fun β w' hbw => c47 _ hbw) ?_)
    | ((with_reducible show CallEv _ _ 49 _ _ _ _ _); refine callE (k := 49) (fun β w' hbw => c49 _) ?_)
    | ((with_reducible show CallEv _ _ 48 _ _ _ _ _); refine callE (k := 48) (fun β w' hbw => wf_ok _ _ _ _) ?_)
  all_goals first | (exfalso; omega) | exact ⟨fun β => rfl, fun w' h => h⟩
end Go.Proofs.Ytfbokllafdnglaa
