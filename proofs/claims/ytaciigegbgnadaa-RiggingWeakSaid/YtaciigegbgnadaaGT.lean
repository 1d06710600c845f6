/- A frame: what its parts are given; put adds a row at a place. -/
import Derived.Test.YtaciigegbgnadaaGS
namespace Go.Proofs.Ytaciigegbgnadaa
open Go Tx Go.RowKit
set_option linter.unusedSimpArgs false
set_option linter.unusedVariables false

/-- What the points, the hangers of the beams, and the notches of the beams are given. -/
structure Fr where
  p : Nat → Row
  h : Nat → Nat → Row
  u : Nat → Nat → Row
def addR (x y : Row) : Row := fun i => x i + y i
def putP (F : Fr) (a : Nat) (x : Row) : Fr := { F with p := fun j => if j = a then addR (F.p j) x else F.p j }
def putU (F : Fr) (b a : Nat) (x : Row) : Fr := { F with u := fun j c => if j = b then (if c = a then addR (F.u j c) x else F.u j c) else F.u j c }
def putF (F : Fr) (b a : Int) (x : Row) : Fr := if b = -1 then putP F a.toNat x else putU F b.toNat a.toNat x
def ptsL (n : Nat) (F : Fr) : List Value := (List.range n).flatMap fun j => rwL (F.p j)
def hgsL (m : Nat) (F : Fr) : List Value := (List.range m).flatMap fun j => (List.range 2).flatMap fun k => rwL (F.h j k)
def hngL (m : Nat) (F : Fr) : List Value := (List.range m).flatMap fun j => (List.range 61).flatMap fun a => rwL (F.u j a)
theorem rwL_len (x : Row) : (rwL x).length = 21 := rfl
theorem hg_len (F : Fr) (j : Nat) : ((List.range 2).flatMap fun k => rwL (F.h j k)).length = 42 := by rw [fm_len (sz := 21) (fun _ => rfl)]; rfl
theorem hn_len (F : Fr) (j : Nat) : ((List.range 61).flatMap fun k => rwL (F.u j k)).length = 1281 := by rw [fm_len (sz := 21) (fun _ => rfl)]; rfl
theorem pts_get {F : Fr} {n k j : Nat} {v : Value} (hk : k < n) (h : (rwL (F.p k))[j]? = some v) : (ptsL n F)[k * 21 + j]? = some v := fm_get (sz := 21) (f := fun j => rwL (F.p j)) (fun _ => rfl) hk h
theorem hng_get {F : Fr} {m k a j : Nat} {v : Value} (hk : k < m) (ha : a < 61) (h : (rwL (F.u k a))[j]? = some v) : (hngL m F)[k * 1281 + a * 21 + j]? = some v := by
  rw [Nat.add_assoc]
  exact fm_get (sz := 1281) (f := fun j => (List.range 61).flatMap fun a => rwL (F.u j a)) (hn_len F) hk (fm_get (sz := 21) (f := fun a => rwL (F.u k a)) (fun _ => rfl) ha h)
theorem hgs_get {F : Fr} {m k a j : Nat} {v : Value} (hk : k < m) (ha : a < 2) (h : (rwL (F.h k a))[j]? = some v) : (hgsL m F)[k * 42 + a * 21 + j]? = some v := by
  rw [Nat.add_assoc]
  exact fm_get (sz := 42) (f := fun j => (List.range 2).flatMap fun a => rwL (F.h j a)) (hg_len F) hk (fm_get (sz := 21) (f := fun a => rwL (F.h k a)) (fun _ => rfl) ha h)
theorem pts_len (n : Nat) (F : Fr) : (ptsL n F).length = n * 21 := by rw [ptsL, fm_len (sz := 21) (fun _ => rfl), List.length_range]
theorem hgs_len (n : Nat) (F : Fr) : (hgsL n F).length = n * 42 := by rw [hgsL, fm_len (hg_len F), List.length_range]
theorem hng_len (n : Nat) (F : Fr) : (hngL n F).length = n * 1281 := by rw [hngL, fm_len (hn_len F), List.length_range]
theorem pts_set {F : Fr} {n k : Nat} (hk : k < n) (x : Row) : (ptsL n F).take (k * 21) ++ rwL (fun i => F.p k i + x i) ++ (ptsL n F).drop (k * 21 + 21) = ptsL n (putP F k x) := by
  have := fm_set (sz := 21) (f := fun j => rwL (F.p j)) (fun _ => rfl) (o := 0) (v := rwL (fun i => F.p k i + x i)) hk (Nat.le_refl _)
  refine (Eq.trans this ?_)
  unfold ptsL
  refine fm_congr fun j _ => ?_
  by_cases h : j = k
  · subst h
    rw [if_pos rfl]
    simp only [putP, if_true]
    rw [List.drop_of_length_le (by rw [rwL_len]; exact Nat.le_refl _)]
    simp [addR]
  · rw [if_neg h]; simp only [putP, if_neg h]
theorem hng_set {F : Fr} {m k a : Nat} (hk : k < m) (ha : a < 61) (x : Row) : (hngL m F).take (k * 1281 + a * 21) ++ rwL (fun i => F.u k a i + x i) ++ (hngL m F).drop (k * 1281 + a * 21 + 21) = hngL m (putU F k a x) := by
  have := fm_set (sz := 1281) (f := fun j => (List.range 61).flatMap fun a => rwL (F.u j a)) (hn_len F) (o := a * 21) (v := rwL (fun i => F.u k a i + x i)) hk (by rw [rwL_len]; omega)
  refine (Eq.trans this ?_)
  unfold hngL
  refine fm_congr fun j _ => ?_
  by_cases h : j = k
  · subst h
    rw [if_pos rfl]
    have h2 := fm_set (sz := 21) (f := fun a => rwL (F.u j a)) (fun _ => rfl) (o := 0) (v := rwL (fun i => F.u j a i + x i)) ha (Nat.le_refl _)
    refine (Eq.trans h2 ?_)
    refine fm_congr fun c _ => ?_
    by_cases h : c = a
    · subst h
      rw [if_pos rfl]
      simp only [putU, if_true]
      rw [List.drop_of_length_le (by rw [rwL_len]; exact Nat.le_refl _)]
      simp [addR]
    · rw [if_neg h]; simp only [putU, if_true, if_neg h]
  · rw [if_neg h]; simp only [putU, if_neg h]

/-- The cells of a frame: its rig, and where its three rows lie. -/
abbrev frC (r : Rig) (n m : Nat) : List SV := [.v (.slice r.po r.pn r.pc), .v (.slice r.bo r.bn r.bc), .v (iv r.f0), .v (iv r.f1), .v (iv r.f2), .v (.slice r.lo r.ln r.lc), .os 1 2 n, .os 3 4 m, .os 5 6 m]
abbrev frM (r : Rig) (n m : Nat) (F : Fr) : List (Nat × Blk) := [(7, .cells (frC r n m) 140), (1, .own 2 n 21 (ptsL n F) 142), (5, .own 6 m 1281 (hngL m F) 162)]

theorem valsK_mk : ∀ (vs : List Value) {K : List Value → Prop}, K vs → valsK (vs.map .v) K
  | [], _, h => h
  | x :: r, K, h => by
    show valsK (r.map .v) fun l => K (x :: l)
    exact valsK_mk r h

set_option maxHeartbeats 4000000 in
set_option maxRecDepth 100000 in
theorem put_p (r : Rig) (n m : Nat) (F : Fr) (a : Nat) (x : Row) (hn : n ≤ 12) (ha : a < n) (hf : rwB (F.p a)) (hx : rwB x) {β : Nat → Nat} {w : World}
    (hok : ∀ i b, lk (frM r n m F) i = some b → b.ok β w (β i)) (hinj : ∀ i j bi bj, lk (frM r n m F) i = some bi → lk (frM r n m F) j = some bj → i ≠ j → β i ≠ β j) :
    Calls Try.prog 91 (SV.cs β [.ptr 7 0, .v (.agg #[iv (-1), iv a]), .v (.agg (rwL x).toArray)]).toArray w fun e w' => e = .returned (.tuple #[]) ∧ Chg (fun b => ∃ i bk, lk (frM r n m F) i = some bk ∧ β i = b) w w' ∧
      ∀ i b, lk (frM r n m (putP F a x)) i = some b → b.ok β w' (β i) := by
  refine calls_W env mixed Try.func91 has91 Try.ntmps91 [.ptr 7 0, .v (.agg #[iv (-1), iv a]), .v (.agg (rwL x).toArray)] (frM r n m F) (frM r n m (putP F a x)) 9 (.tuple #[]) (by simp) rfl rfl rfl (fun i b hi => ?_) (fun h => ?_) hok hinj
  · have := lk_mem hi
    simp only [List.mem_cons, Prod.mk.injEq, List.not_mem_nil, or_false] at this
    rcases this with ⟨_, rfl⟩ | ⟨_, rfl⟩ | ⟨_, rfl⟩ <;> rfl
  obtain ⟨po, pn, pc, bo, bn, bc, f0, f1, f2, lo, ln, lc⟩ := r
  have hrd : ∀ j v, (rwL (F.p a))[j]? = some v → (ptsL n F)[(a : Int).toNat * ti142.size + j]? = some v := fun j v h => by rw [Int.toNat_natCast]; exact pts_get ha h
  repeat'
    conv => whnf
    first
      | refine And.intro (a := drawB _ = true) (by kernel_rfl) ?_
      | refine And.intro (a := (_ : Bool) = true) rfl ?_
      | refine And.intro (a := (_ : Bool) = true ∧ (_ : Bool) = true) ⟨rfl, rfl⟩ ?_
      | refine And.intro (a := (_ : Bool) = true ∧ (_ : List _) = []) ⟨rfl, rfl⟩ ?_
      | refine And.intro (a := IR _ _) (And.intro (by omega) (by omega)) ?_
      | refine wrapE (And.intro (by omega) (by omega)) ?_
      | refine And.intro (a := (0 : Int) ≤ _ ∧ _ < _) (And.intro (by omega) (by omega)) ?_
      | refine And.intro (a := (_ : Bool) = true) (by simp only [Nat.beq_refl]; rfl) ?_
      | refine And.intro (a := ((_ : Bool) = true → 1 ≤ _) ∧ _ ≤ 9223372036854775807 ∧ _ ≤ 140737488355328) ⟨fun h => (by first | omega | cases h), by omega, by omega⟩ ?_
      | refine splT ?_
      | refine splF ?_
      | refine splNot ?_
      | (refine splIn (fun hc => ?_) (fun hc => ?_) <;> first | (exfalso; omega) | (exfalso; dsimp only at hc; omega) | skip)
      | (refine splD (fun hc => ?_) (fun hc => ?_) <;> first | (exfalso; omega) | (exfalso; dsimp only at hc; omega) | skip)
      | (refine splE (fun hc => ?_) (fun hc => ?_) <;> first | (exfalso; omega) | (exfalso; dsimp only at hc; omega) | skip)
      | (refine splNE (fun hc => ?_) (fun hc => ?_) <;> first | (exfalso; omega) | (exfalso; dsimp only at hc; omega) | skip)
      | refine nilE rfl rfl ?_
      | refine Exists.intro (α := List Value) (rwL (F.p a)) ⟨⟨rfl, hrd⟩, ?_⟩
      | ((with_reducible show CallEv _ _ 94 _ _ _ _ _); refine callM (k := 94) [11] (fun β w' hbk hbw => sum_ok (F.p a) x _ 2 w' (Rd.of_cells (sz := 21) (f := rwL) (bs := [F.p a, x]) (fun _ => rfl) rfl (hbk 11 (by simp) _ rfl)) hf hx) ?_)
  have hst : (a : Int).toNat * ti142.size + (rwL fun i => F.p a i + x i).length ≤ (ptsL n F).length := by
    rw [pts_len, Int.toNat_natCast, rwL_len, show ti142.size = 21 from rfl]; omega
  have hse : (ptsL n F).take ((a : Int).toNat * ti142.size) ++ (rwL fun i => F.p a i + x i) ++ (ptsL n F).drop ((a : Int).toNat * ti142.size + (rwL fun i => F.p a i + x i).length) = ptsL n (putP F a x) := by
    rw [Int.toNat_natCast, rwL_len]; exact pts_set ha x
  refine valsK_mk (rwL fun i => F.p a i + x i) ?_
  refine And.intro hst ?_
  rw [hse]
  repeat'
    conv => whnf
    first
      | refine And.intro (a := drawB _ = true) (by kernel_rfl) ?_
      | refine And.intro (a := (_ : Bool) = true) rfl ?_
      | refine And.intro (a := (_ : Bool) = true ∧ (_ : Bool) = true) ⟨rfl, rfl⟩ ?_
      | refine And.intro (a := (_ : Bool) = true ∧ (_ : List _) = []) ⟨rfl, rfl⟩ ?_
      | refine And.intro (a := IR _ _) (And.intro (by omega) (by omega)) ?_
      | refine wrapE (And.intro (by omega) (by omega)) ?_
      | refine And.intro (a := (0 : Int) ≤ _ ∧ _ < _) (And.intro (by omega) (by omega)) ?_
      | refine And.intro (a := (_ : Bool) = true) (by simp only [Nat.beq_refl]; rfl) ?_
      | refine And.intro (a := ((_ : Bool) = true → 1 ≤ _) ∧ _ ≤ 9223372036854775807 ∧ _ ≤ 140737488355328) ⟨fun h => (by first | omega | cases h), by omega, by omega⟩ ?_
      | refine splT ?_
      | refine splF ?_
      | refine splNot ?_
      | (refine splIn (fun hc => ?_) (fun hc => ?_) <;> first | (exfalso; omega) | (exfalso; dsimp only at hc; omega) | skip)
      | (refine splD (fun hc => ?_) (fun hc => ?_) <;> first | (exfalso; omega) | (exfalso; dsimp only at hc; omega) | skip)
      | (refine splE (fun hc => ?_) (fun hc => ?_) <;> first | (exfalso; omega) | (exfalso; dsimp only at hc; omega) | skip)
      | (refine splNE (fun hc => ?_) (fun hc => ?_) <;> first | (exfalso; omega) | (exfalso; dsimp only at hc; omega) | skip)
  exact ⟨fun β => rfl, ⟨rfl, rfl, rfl, trivial⟩, fun w' h => h, rfl⟩

set_option maxHeartbeats 4000000 in
set_option maxRecDepth 100000 in
theorem put_u (r : Rig) (n m : Nat) (F : Fr) (q a : Nat) (x : Row) (hn : 1 ≤ n ∧ n ≤ 12) (hm : m ≤ 12) (hb : q < m) (ha : a < 61) (hf : rwB (F.u q a)) (hx : rwB x) {β : Nat → Nat} {w : World}
    (hok : ∀ i b, lk (frM r n m F) i = some b → b.ok β w (β i)) (hinj : ∀ i j bi bj, lk (frM r n m F) i = some bi → lk (frM r n m F) j = some bj → i ≠ j → β i ≠ β j) :
    Calls Try.prog 91 (SV.cs β [.ptr 7 0, .v (.agg #[iv q, iv a]), .v (.agg (rwL x).toArray)]).toArray w fun e w' => e = .returned (.tuple #[]) ∧ Chg (fun b => ∃ i bk, lk (frM r n m F) i = some bk ∧ β i = b) w w' ∧
      ∀ i b, lk (frM r n m (putU F q a x)) i = some b → b.ok β w' (β i) := by
  refine calls_W env mixed Try.func91 has91 Try.ntmps91 [.ptr 7 0, .v (.agg #[iv q, iv a]), .v (.agg (rwL x).toArray)] (frM r n m F) (frM r n m (putU F q a x)) 9 (.tuple #[]) (by simp) rfl rfl rfl (fun i b hi => ?_) (fun h => ?_) hok hinj
  · have := lk_mem hi
    simp only [List.mem_cons, Prod.mk.injEq, List.not_mem_nil, or_false] at this
    rcases this with ⟨_, rfl⟩ | ⟨_, rfl⟩ | ⟨_, rfl⟩ <;> rfl
  obtain ⟨po, pn, pc, bo, bn, bc, f0, f1, f2, lo, ln, lc⟩ := r
  have hrd : ∀ j v, (rwL (F.u q a))[j]? = some v → (hngL m F)[(q : Int).toNat * ti162.size + (a : Int).toNat * ti142.size + j]? = some v := fun j v h => by rw [Int.toNat_natCast, Int.toNat_natCast]; exact hng_get hb ha h
  repeat'
    conv => whnf
    first
      | refine And.intro (a := drawB _ = true) (by kernel_rfl) ?_
      | refine And.intro (a := (_ : Bool) = true) rfl ?_
      | refine And.intro (a := (_ : Bool) = true ∧ (_ : Bool) = true) ⟨rfl, rfl⟩ ?_
      | refine And.intro (a := (_ : Bool) = true ∧ (_ : List _) = []) ⟨rfl, rfl⟩ ?_
      | refine And.intro (a := IR _ _) (And.intro (by omega) (by omega)) ?_
      | refine wrapE (And.intro (by omega) (by omega)) ?_
      | refine And.intro (a := (0 : Int) ≤ _ ∧ _ < _) (And.intro (by omega) (by omega)) ?_
      | refine And.intro (a := (_ : Bool) = true) (by simp only [Nat.beq_refl]; rfl) ?_
      | refine And.intro (a := ((_ : Bool) = true → 1 ≤ _) ∧ _ ≤ 9223372036854775807 ∧ _ ≤ 140737488355328) ⟨fun h => (by first | omega | cases h), by omega, by omega⟩ ?_
      | refine splT ?_
      | refine splF ?_
      | refine splNot ?_
      | (refine splIn (fun hc => ?_) (fun hc => ?_) <;> first | (exfalso; omega) | (exfalso; dsimp only at hc; omega) | skip)
      | (refine splD (fun hc => ?_) (fun hc => ?_) <;> first | (exfalso; omega) | (exfalso; dsimp only at hc; omega) | skip)
      | (refine splE (fun hc => ?_) (fun hc => ?_) <;> first | (exfalso; omega) | (exfalso; dsimp only at hc; omega) | skip)
      | (refine splNE (fun hc => ?_) (fun hc => ?_) <;> first | (exfalso; omega) | (exfalso; dsimp only at hc; omega) | skip)
      | refine nilE rfl rfl ?_
      | refine Exists.intro (α := List Value) (rwL (F.u q a)) ⟨⟨rfl, hrd⟩, ?_⟩
      | ((with_reducible show CallEv _ _ 94 _ _ _ _ _); refine callM (k := 94) [11] (fun β w' hbk hbw => sum_ok (F.u q a) x _ 2 w' (Rd.of_cells (sz := 21) (f := rwL) (bs := [F.u q a, x]) (fun _ => rfl) rfl (hbk 11 (by simp) _ rfl)) hf hx) ?_)
  have hst : (q : Int).toNat * ti162.size + (a : Int).toNat * ti142.size + (rwL fun i => F.u q a i + x i).length ≤ (hngL m F).length := by
    rw [hng_len, Int.toNat_natCast, Int.toNat_natCast, rwL_len, show ti142.size = 21 from rfl, show ti162.size = 1281 from rfl]; omega
  have hse : (hngL m F).take ((q : Int).toNat * ti162.size + (a : Int).toNat * ti142.size) ++ (rwL fun i => F.u q a i + x i) ++ (hngL m F).drop ((q : Int).toNat * ti162.size + (a : Int).toNat * ti142.size + (rwL fun i => F.u q a i + x i).length) = hngL m (putU F q a x) := by
    rw [Int.toNat_natCast, Int.toNat_natCast, rwL_len]; exact hng_set hb ha x
  refine valsK_mk (rwL fun i => F.u q a i + x i) ?_
  refine And.intro hst ?_
  rw [hse]
  repeat'
    conv => whnf
    first
      | refine And.intro (a := drawB _ = true) (by kernel_rfl) ?_
      | refine And.intro (a := (_ : Bool) = true) rfl ?_
      | refine And.intro (a := (_ : Bool) = true ∧ (_ : Bool) = true) ⟨rfl, rfl⟩ ?_
      | refine And.intro (a := (_ : Bool) = true ∧ (_ : List _) = []) ⟨rfl, rfl⟩ ?_
      | refine And.intro (a := IR _ _) (And.intro (by omega) (by omega)) ?_
      | refine wrapE (And.intro (by omega) (by omega)) ?_
      | refine And.intro (a := (0 : Int) ≤ _ ∧ _ < _) (And.intro (by omega) (by omega)) ?_
      | refine And.intro (a := (_ : Bool) = true) (by simp only [Nat.beq_refl]; rfl) ?_
      | refine And.intro (a := ((_ : Bool) = true → 1 ≤ _) ∧ _ ≤ 9223372036854775807 ∧ _ ≤ 140737488355328) ⟨fun h => (by first | omega | cases h), by omega, by omega⟩ ?_
      | refine splT ?_
      | refine splF ?_
      | refine splNot ?_
      | (refine splIn (fun hc => ?_) (fun hc => ?_) <;> first | (exfalso; omega) | (exfalso; dsimp only at hc; omega) | skip)
      | (refine splD (fun hc => ?_) (fun hc => ?_) <;> first | (exfalso; omega) | (exfalso; dsimp only at hc; omega) | skip)
      | (refine splE (fun hc => ?_) (fun hc => ?_) <;> first | (exfalso; omega) | (exfalso; dsimp only at hc; omega) | skip)
      | (refine splNE (fun hc => ?_) (fun hc => ?_) <;> first | (exfalso; omega) | (exfalso; dsimp only at hc; omega) | skip)
  exact ⟨fun β => rfl, ⟨rfl, rfl, rfl, trivial⟩, fun w' h => h, rfl⟩
end Go.Proofs.Ytaciigegbgnadaa
