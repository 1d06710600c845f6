/- Grids of the yard: nodes, what flows (as a list); valid and plus. -/
import Derived.Test.YtfbokllafdnglaaPB
import Derived.Test.YtfbokllafdnglaaPA
namespace Go.Proofs.Ytfbokllafdnglaa
open Go Tx Go.RowKit
set_option linter.unusedSimpArgs false
set_option linter.unusedVariables false

structure Nd where
  par : Int
  lo : Int
  hi : Int
  fu : Int
  sg : Int
abbrev Nd.cs (x : Nd) : List Value := [iv x.par, iv x.lo, iv x.hi, iv x.fu, iv x.sg]
/-- Node i is right, and its cable drops nothing. -/
structure NdOk (i : Nat) (x : Nd) : Prop where
  lo : 0 ≤ x.lo
  lh : x.lo ≤ x.hi
  hi : x.hi ≤ 1000000
  fu : 0 ≤ x.fu ∧ x.fu ≤ 10000000
  sg : x.sg = 0
  r : i = 0 → x.par = -1 ∧ x.fu = 0
  p : 0 < i → 0 ≤ x.par ∧ x.par < i
structure GdOk (N : List Nd) : Prop where
  l : 1 ≤ N.length ∧ N.length ≤ 30
  n : ∀ (i : Nat) x, N[i]? = some x → NdOk i x
def addP (g h : Int × Int) : Int × Int := (g.1 + h.1, g.2 + h.2)
def upd (D : List (Int × Int)) (i : Nat) (g : Int × Int) : List (Int × Int) := D.set i (addP (D.getD i (0, 0)) g)
/-- What has flowed to the nodes when the last k of them are done. -/
def flow (N : List Nd) : Nat → List (Int × Int)
  | 0 => List.replicate N.length (0, 0)
  | k + 1 => match N[N.length - 1 - k]? with
    | some x => if N.length - 1 - k = 0 then upd (flow N k) (N.length - 1 - k) (x.lo, x.hi) else upd (upd (flow N k) (N.length - 1 - k) (x.lo, x.hi)) x.par.toNat ((upd (flow N k) (N.length - 1 - k) (x.lo, x.hi)).getD (N.length - 1 - k) (0, 0))
    | none => flow N k
theorem upd_len (D : List (Int × Int)) (i : Nat) (g : Int × Int) : (upd D i g).length = D.length := by simp [upd]
theorem upd_at {D : List (Int × Int)} {i : Nat} {g d : Int × Int} (h : D[i]? = some d) : upd D i g = D.set i (addP d g) := by simp [upd, List.getD_eq_getElem?_getD, h]
theorem flow_len (N : List Nd) : ∀ k, (flow N k).length = N.length
  | 0 => by simp [flow]
  | k + 1 => by
    rw [flow]
    split
    · split <;> simp [upd_len, flow_len N k]
    · exact flow_len N k
def inBd (B : Int) (g : Int × Int) : Prop := (0 ≤ g.1 ∧ g.1 ≤ B) ∧ (0 ≤ g.2 ∧ g.2 ≤ B)
theorem upd_bd {D : List (Int × Int)} {i : Nat} {g : Int × Int} {B C E : Int} (h : ∀ (j : Nat) d, D[j]? = some d → inBd B d) (hg : inBd C g) (h1 : B + C ≤ E) (h0 : 0 ≤ C) : ∀ (j : Nat) d, (upd D i g)[j]? = some d → inBd E d := by
  intro j d hd
  unfold upd at hd
  rw [List.getElem?_set] at hd
  split at hd
  · split at hd
    · rename_i hij hl
      rw [Option.some.injEq] at hd
      subst hd hij
      rw [List.getD_eq_getElem?_getD, List.getElem?_eq_getElem hl]
      have := h i _ (List.getElem?_eq_getElem hl)
      unfold inBd addP at *
      simp only [Option.getD_some]
      omega
    · cases hd
  · have := h j d hd
    unfold inBd at *
    omega
theorem getD_bd {D : List (Int × Int)} {i : Nat} {B : Int} (h : ∀ (j : Nat) d, D[j]? = some d → inBd B d) (h0 : 0 ≤ B) : inBd B (D.getD i (0, 0)) := by
  rw [List.getD_eq_getElem?_getD]
  cases hd : D[i]? with
  | none => simp [inBd, h0]
  | some d => exact h i d hd
def bdK : Nat → Int
  | 0 => 0
  | k + 1 => 2 * bdK k + 2000000
theorem bdK_nn : ∀ k, 0 ≤ bdK k
  | 0 => Int.le_refl _
  | k + 1 => by have := bdK_nn k; rw [bdK]; omega
theorem bdK_mono : ∀ (k d : Nat), bdK k ≤ bdK (k + d)
  | k, 0 => Int.le_refl _
  | k, d + 1 => by
    have := bdK_mono k d
    have h2 := bdK_nn (k + d)
    rw [← Nat.add_assoc, bdK]; omega
theorem bdK_30 {k : Nat} (h : k ≤ 30) : bdK k ≤ 2200000000000000 := by
  have := bdK_mono k (30 - k)
  rw [show k + (30 - k) = 30 from by omega] at this
  have h2 : bdK 30 = 2147483646000000 := by decide
  omega
theorem flow_bd {N : List Nd} (h : GdOk N) : ∀ k, k ≤ N.length → ∀ (j : Nat) d, (flow N k)[j]? = some d → inBd (bdK k) d
  | 0, _, j, d, hd => by
    rw [flow, List.getElem?_replicate] at hd
    split at hd
    · rw [Option.some.injEq] at hd; subst hd; simp [inBd, bdK]
    · cases hd
  | k + 1, hk, j, d, hd => by
    have ih := flow_bd h k (by omega)
    have hB := bdK_nn k
    obtain ⟨x, hx⟩ : ∃ x, N[N.length - 1 - k]? = some x := ⟨_, List.getElem?_eq_getElem (by omega)⟩
    have ho := h.n _ x hx
    have h0 := ho.lo
    have h1 := ho.lh
    have h2 := ho.hi
    rw [flow, hx] at hd
    dsimp only at hd
    have u1 := upd_bd (i := N.length - 1 - k) (g := (x.lo, x.hi)) (C := 1000000) (E := bdK k + 1000000) ih (by unfold inBd; dsimp only; omega) (by omega) (by omega)
    split at hd
    · have := u1 j d hd
      unfold inBd at *
      rw [bdK]
      omega
    · exact upd_bd u1 (getD_bd u1 (by omega)) (by rw [bdK]; omega) (by omega) j d hd
theorem flow_snoc {N : List Nd} {k i : Nat} {x : Nd} (hi : i + k + 1 = N.length) (hx : N[i]? = some x) : flow N (k + 1) = if i = 0 then upd (flow N k) i (x.lo, x.hi) else upd (upd (flow N k) i (x.lo, x.hi)) x.par.toNat ((upd (flow N k) i (x.lo, x.hi)).getD i (0, 0)) := by
  rw [flow, show N.length - 1 - k = i from by omega, hx]
/-! ### Rows of pairs -/
theorem pr_at {D : List (Int × Int)} {k : Nat} {g : Int × Int} (h : D[k]? = some g) : ∀ j v, (gF g)[j]? = some v → (D.flatMap gF)[(k : Int).toNat * 2 + j]? = some v := fun j v hj => by
  rw [Int.toNat_natCast]
  exact flat_get (sz := 2) (fun _ => rfl) D k j g v h hj
theorem pr_len (D : List (Int × Int)) : (D.flatMap gF).length = D.length * 2 := by
  induction D with
  | nil => rfl
  | cons a D ih => simp only [List.flatMap_cons, List.length_append, ih, List.length_cons, List.length_nil]; omega
theorem pr_set : ∀ {D : List (Int × Int)} {k : Nat}, k < D.length → ∀ g : Int × Int, (D.flatMap gF).take (k * 2) ++ gF g ++ (D.flatMap gF).drop (k * 2 + (gF g).length) = (D.set k g).flatMap gF
  | [], k, h, _ => by simp at h
  | a :: D, 0, _, g => by simp [List.flatMap_cons]
  | a :: D, k + 1, h, g => by
    have ih := pr_set (D := D) (k := k) (by simpa using h) g
    rw [List.set_cons_succ, List.flatMap_cons, List.flatMap_cons, ← ih]
    rw [show (k + 1) * 2 = (gF a).length + k * 2 from by simp; omega, List.take_length_add_append]
    rw [show (gF a).length + k * 2 + (gF g).length = (gF a).length + (k * 2 + (gF g).length) from by omega, List.drop_length_add_append]
    simp only [List.append_assoc]
theorem pr_zero (n : Nat) : (List.replicate n ((0 : Int), (0 : Int))).flatMap gF = (List.replicate n [iv 0, iv 0]).flatten := by
  rw [List.flatMap_replicate]
theorem wy_ok (n lo hi : Int) (w : World) : Calls Try.prog 84 #[iv n, iv lo, iv hi] w fun e w' => e = .returned (.bool (inB n lo hi)) ∧ Below w.heap.size w w' := by
  refine calls_val env mixed Try.func84 has84 Try.ntmps84 [iv n, iv lo, iv hi] (by simp) ?_
  repeat'
   conv => whnf
   first
    | refine zA ?_ | refine zB ?_ | refine zC ?_ | refine zD ?_ | refine zE ?_ | refine zF ?_ | refine zG ?_ | refine zH ?_ | refine zJ ?_ | refine zI ?_ | refine splT ?_ | refine splF ?_ | refine splNot ?_
    | ((first | refine splIn (fun hc => ?_) (fun hc => ?_) | refine splD (fun hc => ?_) (fun hc => ?_) | refine splE (fun hc => ?_) (fun hc => ?_) | refine splNE (fun hc => ?_) (fun hc => ?_)) <;> first | (exfalso; omega) | (exfalso; dsimp only at hc; omega) | skip)
  all_goals exact ⟨fun β => congrArg Value.bool (by simp [inB, *]), fun w' h => h⟩
theorem plus_ok (a b c d t : Int) (w : World) (h : (0 ≤ a ∧ a ≤ 3000000000000000) ∧ (0 ≤ b ∧ b ≤ 3000000000000000) ∧ (0 ≤ c ∧ c ≤ 3000000000000000) ∧ (0 ≤ d ∧ d ≤ 3000000000000000) ∧ (t = 0 ∨ t = 1)) : Calls Try.prog 86 #[.agg #[iv a, iv b], .agg #[iv c, iv d], iv t] w fun e w' => e = .returned (.agg #[iv (a + t * c), iv (b + t * d)]) ∧ Below w.heap.size w w' := by
  refine calls_val env mixed Try.func86 has86 Try.ntmps86 [.agg #[iv a, iv b], .agg #[iv c, iv d], iv t] (by simp) ?_
  obtain ⟨h1, h2, h3, h4, rfl | rfl⟩ := h
  all_goals skip
  repeat'
   conv => whnf
   first
    | refine zA ?_ | refine zB ?_ | refine zC ?_ | refine zD ?_ | refine zE ?_ | refine zF ?_ | refine zG ?_ | refine zH ?_ | refine zJ ?_ | refine zI ?_ | refine splT ?_ | refine splF ?_ | refine splNot ?_
    | ((first | refine splIn (fun hc => ?_) (fun hc => ?_) | refine splD (fun hc => ?_) (fun hc => ?_) | refine splE (fun hc => ?_) (fun hc => ?_) | refine splNE (fun hc => ?_) (fun hc => ?_)) <;> first | (exfalso; omega) | (exfalso; dsimp only at hc; omega) | skip)
  all_goals first | (exfalso; omega) | exact ⟨fun β => rfl, fun w' h => h⟩
theorem plus1_ok (g h : Int × Int) (w : World) (hg : inBd 3000000000000000 g) (hh : inBd 3000000000000000 h) : Calls Try.prog 86 #[.agg (gF g).toArray, .agg (gF h).toArray, iv 1] w fun e w' => e = .returned (.agg (gF (addP g h)).toArray) ∧ Below w.heap.size w w' := by
  have := plus_ok g.1 g.2 h.1 h.2 1 w ⟨hg.1, hg.2, hh.1, hh.2, .inr rfl⟩
  rw [Int.one_mul, Int.one_mul] at this
  exact this
theorem plus0_ok (h : Int × Int) (w : World) (hh : inBd 3000000000000000 h) : Calls Try.prog 86 #[.agg (gF (0, 0)).toArray, .agg (gF h).toArray, iv 0] w fun e w' => e = .returned (.agg (gF (0, 0)).toArray) ∧ Below w.heap.size w w' := by
  have := plus_ok 0 0 h.1 h.2 0 w ⟨by omega, by omega, hh.1, hh.2, .inl rfl⟩
  rw [Int.zero_mul, Int.zero_mul, Int.zero_add] at this
  exact this
set_option maxHeartbeats 2000000 in
set_option maxRecDepth 100000 in
theorem gridV_ok (N : List Nd) (o : Option Addr) (c : Nat) (w : World) (hN : Rd 5 Nd.cs (.slice o N.length c) N w) (h : GdOk N) : Calls Try.prog 50 #[.agg #[.slice o N.length c, iv 0]] w fun e w' => e = .returned (.bool true) ∧ Below w.heap.size w w' := by
  have hl := h.l
  refine calls_val env mixed Try.func50 has50 Try.ntmps50 [.agg #[.slice o N.length c, iv 0]] (by simp) ?_
  repeat'
   conv => whnf
   first
    | refine zA ?_ | refine zB ?_ | refine zC ?_ | refine zD ?_ | refine zE ?_ | refine zF ?_ | refine zG ?_ | refine zH ?_ | refine zJ ?_ | refine zI ?_ | refine splT ?_ | refine splF ?_ | refine splNot ?_
    | ((first | refine splIn (fun hc => ?_) (fun hc => ?_) | refine splD (fun hc => ?_) (fun hc => ?_) | refine splE (fun hc => ?_) (fun hc => ?_) | refine splNE (fun hc => ?_) (fun hc => ?_)) <;> first | (exfalso; omega) | (exfalso; dsimp only at hc; omega) | skip)
    | ((with_reducible show CallEv _ _ 84 _ _ _ _ _); refine callE (k := 84) (fun β w' hbw => wy_ok _ _ _ _) ?_)
  all_goals first | (exfalso; omega) | skip
  refine loopE (fun k : Nat => [(18, .v (.slice o N.length c)), (19, .v (iv N.length)), (20, .v (iv k))]) (fun _ => [(0, .cells [.v (.slice o N.length c), .v (iv 0)] 92)]) (fun k => k ≤ N.length) (fun k => N.length - k) 0 (Nat.zero_le _) ⟨rfl, rfl, rfl, trivial⟩ ⟨rfl, trivial⟩ (fun _ => ⟨rfl, rfl⟩) ?_
  intro k hk
  rcases Nat.lt_or_ge k N.length with hkl | hkl
  · obtain ⟨x, hb⟩ : ∃ b, N[k]? = some b := ⟨_, List.getElem?_eq_getElem hkl⟩
    obtain ⟨_, ad, rfl, _⟩ := hN.ptr (by omega)
    have e0 := fun (w' : World) hw' => rd_ati (hN.below (w' := w') hw') hb
    obtain ⟨x1, x2, x3, x4, x5, x6, x7⟩ := h.n k x hb
    obtain ⟨par, lo, hi, fu, sg⟩ := x
    dsimp only at x1 x2 x3 x4 x5 x6 x7
    subst x5
    by_cases hk0 : k = 0
    · obtain ⟨rfl, rfl⟩ := x6 hk0
      subst hk0
      repeat'
       conv => whnf
       first
        | refine zA ?_ | refine zB ?_ | refine zC ?_ | refine zD ?_ | refine zE ?_ | refine zF ?_ | refine zG ?_ | refine zH ?_ | refine zJ ?_ | refine zI ?_ | refine splT ?_ | refine splF ?_ | refine splNot ?_
        | ((first | refine splIn (fun hc => ?_) (fun hc => ?_) | refine splD (fun hc => ?_) (fun hc => ?_) | refine splE (fun hc => ?_) (fun hc => ?_) | refine splNE (fun hc => ?_) (fun hc => ?_)) <;> first | (exfalso; omega) | (exfalso; dsimp only at hc; omega) | skip)
        | refine Exists.intro (α := List Value) [iv (-1), iv lo, iv hi, iv 0, iv 0] ⟨⟨rfl, fun w' hw' => e0 w' hw'⟩, ?_⟩
        | ((with_reducible show CallEv _ _ 84 _ _ _ _ _); refine callE (k := 84) (fun β w' hbw => wy_ok _ _ _ _) ?_)
      all_goals first | (exfalso; omega) | exact ⟨1, by omega, by omega, Ent.weak rfl ⟨rfl, rfl, rfl, trivial⟩ ⟨rfl, trivial⟩ fun _ h => h⟩
    · have x7 := x7 (by omega)
      repeat'
       conv => whnf
       first
        | refine zA ?_ | refine zB ?_ | refine zC ?_ | refine zD ?_ | refine zE ?_ | refine zF ?_ | refine zG ?_ | refine zH ?_ | refine zJ ?_ | refine zI ?_ | refine splT ?_ | refine splF ?_ | refine splNot ?_
        | ((first | refine splIn (fun hc => ?_) (fun hc => ?_) | refine splD (fun hc => ?_) (fun hc => ?_) | refine splE (fun hc => ?_) (fun hc => ?_) | refine splNE (fun hc => ?_) (fun hc => ?_)) <;> first | (exfalso; omega) | (exfalso; dsimp only at hc; omega) | skip)
        | refine Exists.intro (α := List Value) [iv par, iv lo, iv hi, iv fu, iv 0] ⟨⟨rfl, fun w' hw' => e0 w' hw'⟩, ?_⟩
        | ((with_reducible show CallEv _ _ 84 _ _ _ _ _); refine callE (k := 84) (fun β w' hbw => wy_ok _ _ _ _) ?_)
      all_goals first | (exfalso; omega) | exact ⟨k + 1, by omega, by omega, Ent.weak rfl ⟨rfl, rfl, rfl, trivial⟩ ⟨rfl, trivial⟩ fun _ h => h⟩
  · skip
    repeat'
     conv => whnf
     first
      | refine zA ?_ | refine zB ?_ | refine zC ?_ | refine zD ?_ | refine zE ?_ | refine zF ?_ | refine zG ?_ | refine zH ?_ | refine zJ ?_ | refine zI ?_ | refine splT ?_ | refine splF ?_ | refine splNot ?_
      | ((first | refine splIn (fun hc => ?_) (fun hc => ?_) | refine splD (fun hc => ?_) (fun hc => ?_) | refine splE (fun hc => ?_) (fun hc => ?_) | refine splNE (fun hc => ?_) (fun hc => ?_)) <;> first | (exfalso; omega) | (exfalso; dsimp only at hc; omega) | skip)
    all_goals first | exact ⟨fun β => rfl, fun w' h => h⟩ | (exfalso; omega)
end Go.Proofs.Ytfbokllafdnglaa
