/- A frame: what frame returns. -/
import Derived.Test.YtaciigegbgnadaaGU
namespace Go.Proofs.Ytaciigegbgnadaa
open Go Tx Go.RowKit
set_option linter.unusedSimpArgs false
set_option linter.unusedVariables false

def rowsB (F : Fr) : Prop := (∀ j, rwB (F.p j)) ∧ (∀ j k, rwB (F.h j k)) ∧ (∀ j a, rwB (F.u j a))
/-- No row that comes up is great. -/
structure FrB (BB : List Bm) (LL : List Ld) : Prop where
  ld : ∀ k, k ≤ LL.length → rowsB (ldsF LL k)
  b0 : ∀ k, k ≤ BB.length → rowsB (bmsF BB (ldsF LL LL.length) k)
  b1 : ∀ k i b, BB[i]? = some b → i + k + 1 = BB.length → rwB (wtR b) ∧ ∀ a, a ≤ 61 → rowsB (hgF b i (putU (bmsF BB (ldsF LL LL.length) k) i 30 (wtR b)) a)
  b2 : ∀ k i b, BB[i]? = some b → i + k + 1 = BB.length → ∀ a : Nat, a < 61 → rwB (lft b.lo b.hi a ((hgF b i (putU (bmsF BB (ldsF LL LL.length) k) i 30 (wtR b)) a).u i a)) ∧ rwB (rgt b.lo b.hi a ((hgF b i (putU (bmsF BB (ldsF LL LL.length) k) i 30 (wtR b)) a).u i a))
  b3 : ∀ k i b, BB[i]? = some b → i + k + 1 = BB.length → rowsB (putF (bmG b i (bmsF BB (ldsF LL LL.length) k)) b.ab b.aa ((bmG b i (bmsF BB (ldsF LL LL.length) k)).h i 0))
theorem rowsB.tgt {F : Fr} (h : rowsB F) (b a : Int) : rwB (tgt F b a) := by
  unfold Go.Proofs.Ytaciigegbgnadaa.tgt
  split
  · exact h.1 _
  · exact h.2.2 _ _
/-- Where a frame and its rows lie. -/
structure FrA where
  fb : Nat
  pb : Nat
  pc : Nat
  hb : Nat
  hc : Nat
  ub : Nat
  uc : Nat
abbrev hgV (z : Row × Row) : List Value := rwL z.1 ++ rwL z.2
/-- A frame lies there. -/
structure FrIn (r : Rig) (n m : Nat) (F : Fr) (y : FrA) (w : World) : Prop where
  c : ∀ j v, [Value.slice r.po r.pn r.pc, .slice r.bo r.bn r.bc, iv r.f0, iv r.f1, iv r.f2, .slice r.lo r.ln r.lc, .slice (some ⟨y.pb, 0, none⟩) n y.pc, .slice (some ⟨y.hb, 0, none⟩) m y.hc, .slice (some ⟨y.ub, 0, none⟩) m y.uc][j]? = some v → w.cell? ((⟨y.fb, 0, none⟩ : Addr).add j) = some v
  p : Rd 21 rwL (.slice (some ⟨y.pb, 0, none⟩) n y.pc) ((List.range n).map F.p) w
  h : Rd 42 hgV (.slice (some ⟨y.hb, 0, none⟩) m y.hc) ((List.range m).map fun j => (F.h j 0, F.h j 1)) w

theorem replK_mk : ∀ (l ys : List SV) {K : List SV → Prop}, ys.length ≤ l.length → K (ys ++ l.drop ys.length) → replK l ys K
  | l, [], K, _, h => by cases l <;> exact (by simpa using h : K _)
  | [], y :: ys, K, hl, _ => by simp at hl
  | x :: l, y :: ys, K, hl, h => by
    show replK l ys fun l => K (y :: l)
    exact replK_mk l ys (by simpa using hl) (by simpa using h)
theorem splK_mk : ∀ (n : Nat) (l ys : List SV) {K : List SV → Prop}, n + ys.length ≤ l.length → K (l.take n ++ ys ++ l.drop (n + ys.length)) → splK n l ys K
  | 0, l, ys, K, hl, h => replK_mk l ys (by omega) (by simpa using h)
  | n + 1, [], ys, K, hl, _ => by simp at hl
  | n + 1, x :: l, ys, K, hl, h => splK_mk n l ys (by simp at hl; omega) (by
    rw [Nat.succ_add] at h
    simpa using h)
theorem splK_to {n : Nat} {l ys l' : List SV} {K : List SV → Prop} (hl : n + ys.length ≤ l.length) (he : l.take n ++ ys ++ l.drop (n + ys.length) = l') (h : K l') : splK n l ys K := splK_mk n l ys hl (he ▸ h)
theorem unit_cells {k : Nat} (hk : k < 21) : (rwS zr).take k ++ [.v (iv 216000)] ++ (rwS zr).drop (k + 1) = rwS (unitR k) := by
  rcases m22 (show k ≤ 21 by omega) with rfl | rfl | rfl | rfl | rfl | rfl | rfl | rfl | rfl | rfl | rfl | rfl | rfl | rfl | rfl | rfl | rfl | rfl | rfl | rfl | rfl | rfl
  all_goals first | rfl | (exfalso; omega)
theorem unit_bd (k : Nat) : rwB (unitR k) := fun i => by
  unfold unitR
  cases Nat.beq i k <;> simp
theorem normK_mk : ∀ (l : List SV) {K : List SV → Prop}, K l → normK l K
  | [], _, h => h
  | x :: r, K, h => by
    show normK r fun l => K (x :: l)
    exact normK_mk r h
/-- A row out of an array of rows whose cells are known. -/
theorem sub_row {C : List Value} {x : Row} {o : Nat} (h : ∀ j v, (rwL x)[j]? = some v → C[o + j]? = some v) : ((C.map SV.v).drop o).take 21 = rwS x := by
  have h1 : (C.drop o).take 21 = rwL x := by
    refine List.ext_getElem? fun j => ?_
    rw [List.getElem?_take]
    split
    · rename_i hj
      have hj2 : j < (rwL x).length := hj
      rw [List.getElem?_drop, h j _ (List.getElem?_eq_getElem hj2), List.getElem?_eq_getElem hj2]
    · rename_i hj
      exact (List.getElem?_eq_none (by show 21 ≤ j; omega)).symm
  rw [← List.map_drop, ← List.map_take, h1]
  rfl
theorem hgF_u (b : Bm) (i : Nat) (F : Fr) : ∀ a, (hgF b i F a).u = F.u
  | 0 => rfl
  | a + 1 => hgF_u b i F a
theorem hasB_mono {pn : Nat} {b a n n' : Int} (h : hasB pn b a n = true) (hn : n ≤ n') : hasB pn b a n' = true := by
  unfold hasB at *
  split
  · rename_i hb; rw [if_pos hb] at h; exact h
  · rename_i hb
    rw [if_neg hb, Bool.and_eq_true, inB_iff, inB_iff] at h
    rw [Bool.and_eq_true, inB_iff, inB_iff]
    omega
theorem put_h (F : Fr) (b a : Int) (x : Row) : (putF F b a x).h = F.h := by unfold putF; split <;> rfl
theorem hgs_put (m : Nat) (F : Fr) (b a : Int) (x : Row) : hgsL m (putF F b a x) = hgsL m F := by unfold hgsL; rw [put_h]

theorem bmsOk_all {pn : Nat} : ∀ {BB : List Bm} {ds : List Int}, bmsOk pn ds BB = true → ∀ (i : Nat) b, BB[i]? = some b → bmOk pn ((ds.length : Int) + i) b = true
  | [], _, _, i, b, h => by simp at h
  | c :: r, ds, h, 0, b, hb => by
    rw [bmsOk, Bool.and_eq_true, Bool.and_eq_true] at h
    simp only [List.getElem?_cons_zero, Option.some.injEq] at hb
    subst hb
    simpa using h.1.1
  | c :: r, ds, h, i + 1, b, hb => by
    rw [bmsOk, Bool.and_eq_true, Bool.and_eq_true] at h
    have := bmsOk_all h.2 i b (by simpa using hb)
    rw [List.length_append] at this
    rw [show (ds.length : Int) + ((i + 1 : Nat) : Int) = ((ds.length + [dB c ds].length : Nat) : Int) + (i : Int) from by simp; omega]
    exact this
theorem spanB_bd {b : Bm} (h : spanB b = true) : 1 ≤ b.hi - b.lo ∧ b.hi - b.lo ≤ 60 := by
  unfold spanB spL at h
  rw [List.contains_iff_mem] at h
  simp only [List.mem_cons, List.not_mem_nil, or_false] at h
  omega
theorem hasB_own {pn i m : Nat} (h : i < m) : hasB pn i 30 m = true := by
  unfold hasB
  rw [if_neg (by omega), Bool.and_eq_true, inB_iff, inB_iff]
  omega
theorem frIn_of {β : Nat → Nat} {r : Rig} {n m : Nat} {F : Fr} {w2 : World} (h7 : (Blk.cells (frC r n m) 140).ok β w2 (β 7)) (h1 : (Blk.own 2 n 21 (ptsL n F) 142).ok β w2 (β 1)) (h3 : (Blk.own 4 m 42 (hgsL m F) 144).ok β w2 (β 3)) :
    FrIn r n m F ⟨β 7, β 1, β 2, β 3, β 4, β 5, β 6⟩ w2 := by
  refine ⟨fun j v hj => ?_, Rd.of_owns (sz := 21) (f := rwL) (fun _ => rfl) ?_ (by simp) h1, Rd.of_owns (sz := 42) (f := hgV) (fun _ => rfl) ?_ (by simp) h3⟩
  · rw [own_add, Nat.zero_add, cell_of_row w2 (β 7) j _ 140 (0, 0) h7, List.getElem?_toArray]
    exact hj
  · rw [List.flatMap_map]; rfl
  · rw [List.flatMap_map]
    refine fm_congr fun j _ => ?_
    show rwL (F.h j 0) ++ (rwL (F.h j 1) ++ []) = _
    rw [List.append_nil]

set_option maxHeartbeats 16000000 in
set_option maxRecDepth 100000 in
theorem frame_ok (r : Rig) (PP : List Int) (BB : List Bm) (LL : List Ld) (w : World) (h : RigIn r PP BB LL w) (hr : rigOk r.f0 r.f1 r.f2 PP BB LL = true) (hG : FrB BB LL) :
    Calls Try.prog 69 #[r.v] w fun e w' => ∃ y : FrA, e = .returned (.pointer (some ⟨y.fb, 0, none⟩)) ∧ Below w.heap.size w w' ∧ St w.heap.size (FrIn r PP.length BB.length (frF BB LL) y) w' := by
  obtain ⟨po, pn, pc, bo, bn, bc, f0, f1, f2, lo, ln, lc⟩ := r
  obtain ⟨hP, hB, hL, rfl, rfl, rfl, l1, l2, l3⟩ := h
  dsimp only at hP hB hL l1 l2 l3 hr ⊢
  rw [rigOk_iff] at hr
  obtain ⟨q1, q2, q3, q4, q5, q6, q7⟩ := hr
  refine calls_fam env mixed Try.func69 has69 Try.ntmps69 [.agg #[.slice po PP.length pc, .slice bo BB.length bc, iv f0, iv f1, iv f2, .slice lo LL.length lc]] (by simp) ?_
  repeat'
    conv => whnf
    first
      | refine And.intro (a := drawB _ = true) (by kernel_rfl) ?_
      | refine And.intro (a := (_ : Bool) = true) rfl ?_
      | refine And.intro (a := (_ : Bool) = true ∧ (_ : Bool) = true) ⟨rfl, rfl⟩ ?_
      | refine And.intro (a := (_ : Bool) = true ∧ (_ : List _) = []) ⟨rfl, rfl⟩ ?_
      | refine And.intro (a := IR _ _) (And.intro (by omega) (by omega)) ?_
      | refine wrapE (And.intro (by omega) (by omega)) ?_
      | refine And.intro (a := (0 : Int) ≤ _ ∧ _ < _) (And.intro (by omega) (by omega)) ?_
      | refine And.intro (a := (_ : Bool) = true) (by simp only [Nat.beq_refl]; rfl) ?_
      | refine And.intro (a := ((_ : Bool) = true → 1 ≤ _) ∧ _ ≤ 9223372036854775807 ∧ _ ≤ 140737488355328) ⟨fun h => (by first | omega | cases h), by omega, by omega⟩ ?_
      | refine splT ?_
      | refine splF ?_
      | refine splNot ?_
      | (refine splIn (fun hc => ?_) (fun hc => ?_) <;> first | (exfalso; omega) | (exfalso; dsimp only at hc; omega) | skip)
      | (refine splD (fun hc => ?_) (fun hc => ?_) <;> first | (exfalso; omega) | (exfalso; dsimp only at hc; omega) | skip)
      | (refine splE (fun hc => ?_) (fun hc => ?_) <;> first | (exfalso; omega) | (exfalso; dsimp only at hc; omega) | skip)
      | (refine splNE (fun hc => ?_) (fun hc => ?_) <;> first | (exfalso; omega) | (exfalso; dsimp only at hc; omega) | skip)
      | refine mkO env 1 PP.length (ptsL PP.length F0) rfl rfl rfl (by decide) rfl (by omega) (by decide) (pts0 _) rfl ?_
      | refine mkO env 3 BB.length (hgsL BB.length F0) rfl rfl rfl (by decide) rfl (by omega) (by decide) (hgs0 _) rfl ?_
      | refine mkO env 5 BB.length (hngL BB.length F0) rfl rfl rfl (by decide) rfl (by omega) (by decide) (hng0 _) rfl ?_
  refine loopN 9 (fun k : Nat => [(3, .ptr 8 0), (30, .v (.slice lo LL.length lc)), (31, .v (iv LL.length)), (32, .v (iv k))])
    (fun k => [(7, .cells [.v (.slice po PP.length pc), .v (.slice bo BB.length bc), .v (iv f0), .v (iv f1), .v (iv f2), .v (.slice lo LL.length lc), .os 1 2 PP.length, .os 3 4 BB.length, .os 5 6 BB.length] 140), (1, .own 2 PP.length 21 (ptsL PP.length (ldsF LL k)) 142), (3, .own 4 BB.length 42 (hgsL BB.length (ldsF LL k)) 144), (5, .own 6 BB.length 1281 (hngL BB.length (ldsF LL k)) 162), (8, .cells [.ptr 7 0] 134)])
    (fun k => k ≤ LL.length) (fun k => LL.length - k) 0 (Nat.zero_le _) ⟨rfl, rfl, rfl, rfl, trivial⟩ ⟨rfl, rfl, rfl, rfl, rfl, trivial⟩ (fun _ _ => ⟨rfl, rfl⟩) ?_
  intro k hk
  rcases Nat.lt_or_ge k LL.length with hkl | hkl
  · obtain ⟨l, hb⟩ : ∃ b, LL[k]? = some b := ⟨_, List.getElem?_eq_getElem hkl⟩
    obtain ⟨_, ad, rfl, _⟩ := hL.ptr (by omega)
    have e0 := fun (w' : World) hw' => rd_ati (hL.below (w' := w') hw') hb
    have hlo := List.all_eq_true.1 q7 l (List.mem_of_getElem? hb)
    rw [ldOk_iff] at hlo
    have hst : ldsF LL (k + 1) = putF (ldsF LL k) l.beam l.at' (unitR k) := by rw [ldsF, hb]
    have hg := hG.ld k hk
    generalize ldsF LL k = F at *
    obtain ⟨lb, la, lk', ll, lh⟩ := l
    dsimp only at hlo hst
    repeat'
      conv => whnf
      first
        | refine And.intro (a := drawB _ = true) (by kernel_rfl) ?_
        | refine And.intro (a := (_ : Bool) = true) rfl ?_
        | refine And.intro (a := (_ : Bool) = true ∧ (_ : Bool) = true) ⟨rfl, rfl⟩ ?_
        | refine And.intro (a := (_ : Bool) = true ∧ (_ : List _) = []) ⟨rfl, rfl⟩ ?_
        | refine And.intro (a := IR _ _) (And.intro (by omega) (by omega)) ?_
        | refine wrapE (And.intro (by omega) (by omega)) ?_
        | refine And.intro (a := (0 : Int) ≤ _ ∧ _ < _) (And.intro (by omega) (by omega)) ?_
        | refine And.intro (a := (_ : Bool) = true) (by simp only [Nat.beq_refl]; rfl) ?_
        | refine And.intro (a := ((_ : Bool) = true → 1 ≤ _) ∧ _ ≤ 9223372036854775807 ∧ _ ≤ 140737488355328) ⟨fun h => (by first | omega | cases h), by omega, by omega⟩ ?_
        | refine splT ?_
        | refine splF ?_
        | refine splNot ?_
        | (refine splIn (fun hc => ?_) (fun hc => ?_) <;> first | (exfalso; omega) | (exfalso; dsimp only at hc; omega) | skip)
        | (refine splD (fun hc => ?_) (fun hc => ?_) <;> first | (exfalso; omega) | (exfalso; dsimp only at hc; omega) | skip)
        | (refine splE (fun hc => ?_) (fun hc => ?_) <;> first | (exfalso; omega) | (exfalso; dsimp only at hc; omega) | skip)
        | (refine splNE (fun hc => ?_) (fun hc => ?_) <;> first | (exfalso; omega) | (exfalso; dsimp only at hc; omega) | skip)
        | refine Exists.intro (α := List Value) [iv lb, iv la, .int .u8 lk', iv ll, iv lh] ⟨⟨rfl, fun w' hw' => e0 w' hw'⟩, ?_⟩
    refine splK_to (l' := rwS (unitR k)) ?_ ?_ ?_
    · rw [Int.toNat_natCast]
      show 0 + k * 1 + 1 ≤ 21
      omega
    · rw [Int.toNat_natCast]
      show (rwS zr).take (0 + k * 1) ++ [.v (iv 216000)] ++ (rwS zr).drop (0 + k * 1 + 1) = _
      rw [Nat.zero_add, Nat.mul_one]
      exact unit_cells (by omega)
    repeat'
      conv => whnf
      first
        | refine And.intro (a := drawB _ = true) (by kernel_rfl) ?_
        | refine And.intro (a := (_ : Bool) = true) rfl ?_
        | refine And.intro (a := (_ : Bool) = true ∧ (_ : Bool) = true) ⟨rfl, rfl⟩ ?_
        | refine And.intro (a := (_ : Bool) = true ∧ (_ : List _) = []) ⟨rfl, rfl⟩ ?_
        | refine And.intro (a := IR _ _) (And.intro (by omega) (by omega)) ?_
        | refine wrapE (And.intro (by omega) (by omega)) ?_
        | refine And.intro (a := (0 : Int) ≤ _ ∧ _ < _) (And.intro (by omega) (by omega)) ?_
        | refine And.intro (a := (_ : Bool) = true) (by simp only [Nat.beq_refl]; rfl) ?_
        | refine And.intro (a := ((_ : Bool) = true → 1 ≤ _) ∧ _ ≤ 9223372036854775807 ∧ _ ≤ 140737488355328) ⟨fun h => (by first | omega | cases h), by omega, by omega⟩ ?_
        | refine splT ?_
        | refine splF ?_
        | refine splNot ?_
        | (refine splIn (fun hc => ?_) (fun hc => ?_) <;> first | (exfalso; omega) | (exfalso; dsimp only at hc; omega) | skip)
        | (refine splD (fun hc => ?_) (fun hc => ?_) <;> first | (exfalso; omega) | (exfalso; dsimp only at hc; omega) | skip)
        | (refine splE (fun hc => ?_) (fun hc => ?_) <;> first | (exfalso; omega) | (exfalso; dsimp only at hc; omega) | skip)
        | (refine splNE (fun hc => ?_) (fun hc => ?_) <;> first | (exfalso; omega) | (exfalso; dsimp only at hc; omega) | skip)
        | ((with_reducible show CallEv _ _ 91 _ _ _ _ _); refine callPut ⟨po, PP.length, pc, bo, BB.length, bc, f0, f1, f2, some ad, LL.length, lc⟩ PP.length BB.length F lb la (unitR k) (by omega) (by omega) hlo.1 (hg.tgt _ _) (unit_bd k) rfl rfl rfl (fun β => rfl) rfl ?_)
    exact ⟨k + 1, by omega, by omega, Ent.weak rfl ⟨rfl, rfl, rfl, rfl, trivial⟩ ⟨rfl, by rw [hst]; rfl, by rw [hst, hgs_put]; rfl, by rw [hst]; rfl, rfl, trivial⟩ fun _ h => h⟩
  · obtain rfl : k = LL.length := by omega
    repeat'
      conv => whnf
      first
        | refine And.intro (a := drawB _ = true) (by kernel_rfl) ?_
        | refine And.intro (a := (_ : Bool) = true) rfl ?_
        | refine And.intro (a := (_ : Bool) = true ∧ (_ : Bool) = true) ⟨rfl, rfl⟩ ?_
        | refine And.intro (a := (_ : Bool) = true ∧ (_ : List _) = []) ⟨rfl, rfl⟩ ?_
        | refine And.intro (a := IR _ _) (And.intro (by omega) (by omega)) ?_
        | refine wrapE (And.intro (by omega) (by omega)) ?_
        | refine And.intro (a := (0 : Int) ≤ _ ∧ _ < _) (And.intro (by omega) (by omega)) ?_
        | refine And.intro (a := (_ : Bool) = true) (by simp only [Nat.beq_refl]; rfl) ?_
        | refine And.intro (a := ((_ : Bool) = true → 1 ≤ _) ∧ _ ≤ 9223372036854775807 ∧ _ ≤ 140737488355328) ⟨fun h => (by first | omega | cases h), by omega, by omega⟩ ?_
        | refine splT ?_
        | refine splF ?_
        | refine splNot ?_
        | (refine splIn (fun hc => ?_) (fun hc => ?_) <;> first | (exfalso; omega) | (exfalso; dsimp only at hc; omega) | skip)
        | (refine splD (fun hc => ?_) (fun hc => ?_) <;> first | (exfalso; omega) | (exfalso; dsimp only at hc; omega) | skip)
        | (refine splE (fun hc => ?_) (fun hc => ?_) <;> first | (exfalso; omega) | (exfalso; dsimp only at hc; omega) | skip)
        | (refine splNE (fun hc => ?_) (fun hc => ?_) <;> first | (exfalso; omega) | (exfalso; dsimp only at hc; omega) | skip)
        | ((with_reducible show CallEv _ _ 92 _ _ _ _ _); refine callI env mixed 1000 [3] Try.func92 has92 Try.ntmps92 (Nat.le_of_ble_eq_true rfl) rfl rfl rfl ?_)
    conv => whnf
    refine rf_inline env mixed 1000 [3] Try.func108 has108 Try.ntmps108 rfl rfl (by decide) rfl rfl ?_
    intro lp asg bdy hasg hbdy
    repeat'
      conv => whnf
      first
        | refine And.intro (a := drawB _ = true) (by kernel_rfl) ?_
        | refine And.intro (a := (_ : Bool) = true) rfl ?_
        | refine And.intro (a := (_ : Bool) = true ∧ (_ : Bool) = true) ⟨rfl, rfl⟩ ?_
        | refine And.intro (a := (_ : Bool) = true ∧ (_ : List _) = []) ⟨rfl, rfl⟩ ?_
        | refine And.intro (a := IR _ _) (And.intro (by omega) (by omega)) ?_
        | refine wrapE (And.intro (by omega) (by omega)) ?_
        | refine And.intro (a := (0 : Int) ≤ _ ∧ _ < _) (And.intro (by omega) (by omega)) ?_
        | refine And.intro (a := (_ : Bool) = true) (by simp only [Nat.beq_refl]; rfl) ?_
        | refine And.intro (a := ((_ : Bool) = true → 1 ≤ _) ∧ _ ≤ 9223372036854775807 ∧ _ ≤ 140737488355328) ⟨fun h => (by first | omega | cases h), by omega, by omega⟩ ?_
        | refine splT ?_
        | refine splF ?_
        | refine splNot ?_
        | (refine splIn (fun hc => ?_) (fun hc => ?_) <;> first | (exfalso; omega) | (exfalso; dsimp only at hc; omega) | skip)
        | (refine splD (fun hc => ?_) (fun hc => ?_) <;> first | (exfalso; omega) | (exfalso; dsimp only at hc; omega) | skip)
        | (refine splE (fun hc => ?_) (fun hc => ?_) <;> first | (exfalso; omega) | (exfalso; dsimp only at hc; omega) | skip)
        | (refine splNE (fun hc => ?_) (fun hc => ?_) <;> first | (exfalso; omega) | (exfalso; dsimp only at hc; omega) | skip)
        | refine nilE rfl rfl ?_
    conv => whnf
    refine loopN 10 (fun k : Nat => [(0, .v (.func (.yield lp) #[] #[])), (1, .ptr 9 0), (3, .v (iv ((BB.length : Int) - 1 - k)))])
      (fun k => [(7, .cells [.v (.slice po PP.length pc), .v (.slice bo BB.length bc), .v (iv f0), .v (iv f1), .v (iv f2), .v (.slice lo LL.length lc), .os 1 2 PP.length, .os 3 4 BB.length, .os 5 6 BB.length] 140), (1, .own 2 PP.length 21 (ptsL PP.length (bmsF BB (ldsF LL LL.length) k)) 142), (3, .own 4 BB.length 42 (hgsL BB.length (bmsF BB (ldsF LL LL.length) k)) 144), (5, .own 6 BB.length 1281 (hngL BB.length (bmsF BB (ldsF LL LL.length) k)) 162), (8, .cells [.ptr 7 0] 134), (9, .cells [.ptr 7 0] 134)])
      (fun k => k ≤ BB.length) (fun k => BB.length - k) 0 (Nat.zero_le _) ⟨rfl, rfl, by rw [Int.natCast_zero, Int.sub_zero]; rfl, trivial⟩ ⟨rfl, rfl, rfl, rfl, rfl, rfl, trivial⟩ (fun _ _ => ⟨rfl, rfl⟩) ?_
    intro k hk2
    rcases Nat.lt_or_ge k BB.length with hkl2 | hkl2
    · obtain ⟨i, hi⟩ : ∃ i, i + k + 1 = BB.length := ⟨BB.length - 1 - k, by omega⟩
      have hik : (BB.length : Int) - 1 - (k : Int) = (i : Int) := by omega
      have hik2 : (BB.length : Int) - 1 - ((k + 1 : Nat) : Int) = (i : Int) - 1 := by omega
      rw [hik]
      obtain ⟨b, hb⟩ : ∃ b, BB[i]? = some b := ⟨_, List.getElem?_eq_getElem (by omega)⟩
      obtain ⟨_, ad, rfl, _⟩ := hB.ptr (by omega)
      have e0 := fun (w' : World) hw' => rd_ati (hB.below (w' := w') hw') hb
      have hst : bmsF BB (ldsF LL LL.length) (k + 1) = bmF b i (bmsF BB (ldsF LL LL.length) k) := by
        rw [bmsF, show BB.length - 1 - k = i from by omega, hb]
      have g0 := hG.b0 k hk2
      have g1 := hG.b1 k i b hb hi
      have g2 := hG.b2 k i b hb hi
      have g3 := hG.b3 k i b hb hi
      have hbm : bmOk PP.length i b = true := by have := bmsOk_all q4 i b hb; simpa using this
      rw [bmOk_iff] at hbm
      generalize bmsF BB (ldsF LL LL.length) k = F at *
      obtain ⟨b1, b2, b3, b4, b5, b6, b7, b8⟩ := b
      dsimp only at hbm
      obtain ⟨c1, c2, c3, c4, c5, c6, c7⟩ := hbm
      have c3' : 1 ≤ b2 - b1 ∧ b2 - b1 ≤ 60 := spanB_bd c3
      unfold bmF at hst
      unfold bmG at hst g3
      generalize hF1 : putU F i 30 (wtR ⟨b1, b2, b3, b4, b5, b6, b7, b8⟩) = F1 at *
      have hu0 : ∀ a, (hgF ⟨b1, b2, b3, b4, b5, b6, b7, b8⟩ i F1 a).u = F1.u := hgF_u _ _ _
      have hload : ∀ j v, ((List.range 61).flatMap fun a => rwL (F1.u i a))[j]? = some v → (hngL BB.length F1)[(i : Int).toNat * ti162.size + j]? = some v := fun j v h => by
        rw [Int.toNat_natCast]
        exact fm_get (sz := 1281) (f := fun j => (List.range 61).flatMap fun a => rwL (F1.u j a)) (hn_len F1) (by omega) h
      obtain ⟨C, hC1, hC2, hC3⟩ : ∃ C : List Value, C.length = ti162.size ∧ (∀ j v, C[j]? = some v → (hngL BB.length F1)[(i : Int).toNat * ti162.size + j]? = some v) ∧ ∀ a : Nat, a < 61 → ∀ j v, (rwL (F1.u i a))[j]? = some v → C[a * 21 + j]? = some v :=
        ⟨_, hn_len F1 i, hload, fun a ha j v h => fm_get (sz := 21) (f := fun a => rwL (F1.u i a)) (fun _ => rfl) ha h⟩
      clear hload
      repeat'
        conv => whnf
        first
          | refine And.intro (a := drawB _ = true) (by kernel_rfl) ?_
          | refine And.intro (a := (_ : Bool) = true) rfl ?_
          | refine And.intro (a := (_ : Bool) = true ∧ (_ : Bool) = true) ⟨rfl, rfl⟩ ?_
          | refine And.intro (a := (_ : Bool) = true ∧ (_ : List _) = []) ⟨rfl, rfl⟩ ?_
          | refine And.intro (a := IR _ _) (And.intro (by omega) (by omega)) ?_
          | refine wrapE (And.intro (by omega) (by omega)) ?_
          | refine And.intro (a := (0 : Int) ≤ _ ∧ _ < _) (And.intro (by omega) (by omega)) ?_
          | refine And.intro (a := (_ : Bool) = true) (by simp only [Nat.beq_refl]; rfl) ?_
          | refine And.intro (a := ((_ : Bool) = true → 1 ≤ _) ∧ _ ≤ 9223372036854775807 ∧ _ ≤ 140737488355328) ⟨fun h => (by first | omega | cases h), by omega, by omega⟩ ?_
          | refine splT ?_
          | refine splF ?_
          | refine splNot ?_
          | (refine splIn (fun hc => ?_) (fun hc => ?_) <;> first | (exfalso; omega) | (exfalso; dsimp only at hc; omega) | skip)
          | (refine splD (fun hc => ?_) (fun hc => ?_) <;> first | (exfalso; omega) | (exfalso; dsimp only at hc; omega) | skip)
          | (refine splE (fun hc => ?_) (fun hc => ?_) <;> first | (exfalso; omega) | (exfalso; dsimp only at hc; omega) | skip)
          | (refine splNE (fun hc => ?_) (fun hc => ?_) <;> first | (exfalso; omega) | (exfalso; dsimp only at hc; omega) | skip)
          | refine nilE rfl rfl ?_
          | refine Exists.intro (α := List Value) [iv b1, iv b2, iv b3, iv b4, iv b5, iv b6, iv b7, iv b8] ⟨⟨rfl, fun w' hw' => e0 w' hw'⟩, ?_⟩
          | refine And.intro (a := (_ : List _) = [] ∧ (_ : List _) = []) ⟨rfl, rfl⟩ ?_
          | refine yield_inline env mixed 0 2000 [3] [0, 1, 3] rfl rfl rfl rfl rfl rfl rfl ?_
          | refine vc_eq env hasg ?_
          | refine vc_eq env hbdy ?_
          | ((with_reducible show CallEv _ _ 91 _ _ _ _ _); refine callPutE ⟨po, PP.length, pc, some ad, BB.length, bc, f0, f1, f2, lo, LL.length, lc⟩ PP.length BB.length F F1 i 30 (wtR ⟨b1, b2, b3, b4, b5, b6, b7, b8⟩) ((putF_nat _ _ _).trans hF1) (by omega) (by omega) (hasB_own (by omega)) (g0.tgt _ _) g1.1 rfl rfl rfl (fun β => rfl) rfl ?_)
          | refine Exists.intro (α := List Value) C ⟨⟨hC1, hC2⟩, normK_mk _ ?_⟩
      conv => whnf
      refine loopN 12 (fun a : Nat => [(3, .ptr 8 0), (7, .v (iv i)), (8, .ptr 10 0), (64, .agg (C.map .v)), (65, .v (iv a))])
        (fun a => [(7, .cells [.v (.slice po PP.length pc), .v (.slice (some ad) BB.length bc), .v (iv f0), .v (iv f1), .v (iv f2), .v (.slice lo LL.length lc), .os 1 2 PP.length, .os 3 4 BB.length, .os 5 6 BB.length] 140), (1, .own 2 PP.length 21 (ptsL PP.length (hgF ⟨b1, b2, b3, b4, b5, b6, b7, b8⟩ i F1 a)) 142), (3, .own 4 BB.length 42 (hgsL BB.length (hgF ⟨b1, b2, b3, b4, b5, b6, b7, b8⟩ i F1 a)) 144), (5, .own 6 BB.length 1281 (hngL BB.length (hgF ⟨b1, b2, b3, b4, b5, b6, b7, b8⟩ i F1 a)) 162), (8, .cells [.ptr 7 0] 134), (9, .cells [.ptr 7 0] 134), (10, .cells [.v (iv b1), .v (iv b2), .v (iv b3), .v (iv b4), .v (iv b5), .v (iv b6), .v (iv b7), .v (iv b8)] 107)])
        (fun a => a ≤ 61) (fun a => 61 - a) 0 (Nat.zero_le _) ⟨rfl, rfl, rfl, rfl, rfl, trivial⟩ ⟨rfl, rfl, by rw [← hF1]; rfl, rfl, rfl, rfl, rfl, trivial⟩ (fun a _ => ⟨by show (SV.lts 12 (C.map SV.v) && _) = true; rw [lts_v]; rfl, rfl⟩) ?_
      intro a ha
      have g4 := g1.2 a ha
      rcases Nat.lt_or_ge a 61 with hal | hal
      · have g5 := g2 a hal
        have hrow : rwB (F1.u i a) := by rw [← hu0 a]; exact g4.2.2 i a
        rw [hu0 a] at g5
        have hsub := sub_row (hC3 a hal)
        have hstA : hgF ⟨b1, b2, b3, b4, b5, b6, b7, b8⟩ i F1 (a + 1) = setH (setH (hgF ⟨b1, b2, b3, b4, b5, b6, b7, b8⟩ i F1 a) i 0 (addR ((hgF ⟨b1, b2, b3, b4, b5, b6, b7, b8⟩ i F1 a).h i 0) (lft b1 b2 a (F1.u i a)))) i 1 (addR ((hgF ⟨b1, b2, b3, b4, b5, b6, b7, b8⟩ i F1 a).h i 1) (rgt b1 b2 a (F1.u i a))) := by
          show hStep _ _ _ _ = _
          unfold hStep
          rw [hu0 a]
        generalize hgF ⟨b1, b2, b3, b4, b5, b6, b7, b8⟩ i F1 a = H at *
        generalize F1.u i a = X at *
        have hh0 := g4.2.1 i 0
        have hh1 := g4.2.1 i 1
        have hl0 : ∀ j v, (rwL (H.h i 0))[j]? = some v → (hgsL BB.length H)[(i : Int).toNat * ti144.size + (0 : Int).toNat * ti142.size + j]? = some v := fun j v h => by
          rw [Int.toNat_natCast]; exact hgs_get (k := i) (a := 0) (by omega) (by omega) h
        have hl1 : ∀ j v, (rwL (H.h i 1))[j]? = some v → (hgsL BB.length H)[(i : Int).toNat * ti144.size + (1 : Int).toNat * ti142.size + j]? = some v := fun j v h => by
          rw [Int.toNat_natCast]; exact hgs_get (k := i) (a := 1) (by omega) (by omega) h
        have hpt := fun w' => part_ok ⟨b1, b2, b3, b4, b5, b6, b7, b8⟩ X a w' hrow c3' c1 (by omega)
        dsimp only at hpt
        generalize lft b1 b2 a X = L at *
        generalize rgt b1 b2 a X = R at *
        have hs0 : (i : Int).toNat * ti144.size + (0 : Int).toNat * ti142.size + (rwL (addR (H.h i 0) L)).length ≤ (hgsL BB.length H).length := by
          rw [hgs_len, Int.toNat_natCast, rwL_len, show ti142.size = 21 from rfl, show ti144.size = 42 from rfl]; show i * 42 + 0 * 21 + 21 ≤ _; omega
        have he0 : (hgsL BB.length H).take ((i : Int).toNat * ti144.size + (0 : Int).toNat * ti142.size) ++ rwL (addR (H.h i 0) L) ++ (hgsL BB.length H).drop ((i : Int).toNat * ti144.size + (0 : Int).toNat * ti142.size + (rwL (addR (H.h i 0) L)).length) = hgsL BB.length (setH H i 0 (addR (H.h i 0) L)) := by
          rw [Int.toNat_natCast, rwL_len]; exact hgs_set (k := i) (a := 0) (by omega) (by omega) _
        have hs1 : (i : Int).toNat * ti144.size + (1 : Int).toNat * ti142.size + (rwL (addR (H.h i 1) R)).length ≤ (hgsL BB.length (setH H i 0 (addR (H.h i 0) L))).length := by
          rw [hgs_len, Int.toNat_natCast, rwL_len, show ti142.size = 21 from rfl, show ti144.size = 42 from rfl]; show i * 42 + 1 * 21 + 21 ≤ _; omega
        have he1 : (hgsL BB.length (setH H i 0 (addR (H.h i 0) L))).take ((i : Int).toNat * ti144.size + (1 : Int).toNat * ti142.size) ++ rwL (addR (H.h i 1) R) ++ (hgsL BB.length (setH H i 0 (addR (H.h i 0) L))).drop ((i : Int).toNat * ti144.size + (1 : Int).toNat * ti142.size + (rwL (addR (H.h i 1) R)).length) = hgsL BB.length (setH (setH H i 0 (addR (H.h i 0) L)) i 1 (addR (H.h i 1) R)) := by
          rw [Int.toNat_natCast, rwL_len]; exact hgs_set (k := i) (a := 1) (by omega) (by omega) _
        repeat'
          conv => whnf
          first
            | refine And.intro (a := drawB _ = true) (by kernel_rfl) ?_
            | refine And.intro (a := (_ : Bool) = true) rfl ?_
            | refine And.intro (a := (_ : Bool) = true ∧ (_ : Bool) = true) ⟨rfl, rfl⟩ ?_
            | refine And.intro (a := (_ : Bool) = true ∧ (_ : List _) = []) ⟨rfl, rfl⟩ ?_
            | refine And.intro (a := IR _ _) (And.intro (by omega) (by omega)) ?_
            | refine wrapE (And.intro (by omega) (by omega)) ?_
            | refine And.intro (a := (0 : Int) ≤ _ ∧ _ < _) (And.intro (by omega) (by omega)) ?_
            | refine And.intro (a := (_ : Bool) = true) (by simp only [Nat.beq_refl]; rfl) ?_
            | refine And.intro (a := ((_ : Bool) = true → 1 ≤ _) ∧ _ ≤ 9223372036854775807 ∧ _ ≤ 140737488355328) ⟨fun h => (by first | omega | cases h), by omega, by omega⟩ ?_
            | refine splT ?_
            | refine splF ?_
            | refine splNot ?_
            | (refine splIn (fun hc => ?_) (fun hc => ?_) <;> first | (exfalso; omega) | (exfalso; dsimp only at hc; omega) | skip)
            | (refine splD (fun hc => ?_) (fun hc => ?_) <;> first | (exfalso; omega) | (exfalso; dsimp only at hc; omega) | skip)
            | (refine splE (fun hc => ?_) (fun hc => ?_) <;> first | (exfalso; omega) | (exfalso; dsimp only at hc; omega) | skip)
            | (refine splNE (fun hc => ?_) (fun hc => ?_) <;> first | (exfalso; omega) | (exfalso; dsimp only at hc; omega) | skip)
            | refine nilE rfl rfl ?_
            | refine idxL env (rwS X) rfl rfl rfl rfl (And.intro (by omega) (by omega)) rfl hsub rfl rfl rfl ?_
            | ((with_reducible show CallEv _ _ 93 _ _ _ _ _); refine callE (k := 93) (fun β w' hbw => hpt _) ?_)
            | refine Exists.intro (α := List Value) (rwL (H.h i 0)) ⟨⟨rfl, hl0⟩, ?_⟩
            | refine Exists.intro (α := List Value) (rwL (H.h i 1)) ⟨⟨rfl, hl1⟩, ?_⟩
            | ((with_reducible show CallEv _ _ 94 [.sl 15 0 2 2] _ _ _ _); refine callM (k := 94) [15] (fun β w' hbk hbw => sum_ok (H.h i 0) L _ 2 w' (Rd.of_cells (sz := 21) (f := rwL) (bs := [H.h i 0, L]) (fun _ => rfl) rfl (hbk 15 (by simp) _ rfl)) hh0 g5.1) ?_)
            | ((with_reducible show CallEv _ _ 94 [.sl 16 0 2 2] _ _ _ _); refine callM (k := 94) [16] (fun β w' hbk hbw => sum_ok (H.h i 1) R _ 2 w' (Rd.of_cells (sz := 21) (f := rwL) (bs := [H.h i 1, R]) (fun _ => rfl) rfl (hbk 16 (by simp) _ rfl)) hh1 g5.2) ?_)
        refine valsK_mk (rwL (addR (H.h i 0) L)) ?_
        refine And.intro hs0 ?_
        rw [he0]
        repeat'
          conv => whnf
          first
            | refine And.intro (a := drawB _ = true) (by kernel_rfl) ?_
            | refine And.intro (a := (_ : Bool) = true) rfl ?_
            | refine And.intro (a := (_ : Bool) = true ∧ (_ : Bool) = true) ⟨rfl, rfl⟩ ?_
            | refine And.intro (a := (_ : Bool) = true ∧ (_ : List _) = []) ⟨rfl, rfl⟩ ?_
            | refine And.intro (a := IR _ _) (And.intro (by omega) (by omega)) ?_
            | refine wrapE (And.intro (by omega) (by omega)) ?_
            | refine And.intro (a := (0 : Int) ≤ _ ∧ _ < _) (And.intro (by omega) (by omega)) ?_
            | refine And.intro (a := (_ : Bool) = true) (by simp only [Nat.beq_refl]; rfl) ?_
            | refine And.intro (a := ((_ : Bool) = true → 1 ≤ _) ∧ _ ≤ 9223372036854775807 ∧ _ ≤ 140737488355328) ⟨fun h => (by first | omega | cases h), by omega, by omega⟩ ?_
            | refine splT ?_
            | refine splF ?_
            | refine splNot ?_
            | (refine splIn (fun hc => ?_) (fun hc => ?_) <;> first | (exfalso; omega) | (exfalso; dsimp only at hc; omega) | skip)
            | (refine splD (fun hc => ?_) (fun hc => ?_) <;> first | (exfalso; omega) | (exfalso; dsimp only at hc; omega) | skip)
            | (refine splE (fun hc => ?_) (fun hc => ?_) <;> first | (exfalso; omega) | (exfalso; dsimp only at hc; omega) | skip)
            | (refine splNE (fun hc => ?_) (fun hc => ?_) <;> first | (exfalso; omega) | (exfalso; dsimp only at hc; omega) | skip)
        refine valsK_mk (rwL (addR (H.h i 1) R)) ?_
        refine And.intro hs1 ?_
        rw [he1]
        repeat'
          conv => whnf
          first
            | refine And.intro (a := drawB _ = true) (by kernel_rfl) ?_
            | refine And.intro (a := (_ : Bool) = true) rfl ?_
            | refine And.intro (a := (_ : Bool) = true ∧ (_ : Bool) = true) ⟨rfl, rfl⟩ ?_
            | refine And.intro (a := (_ : Bool) = true ∧ (_ : List _) = []) ⟨rfl, rfl⟩ ?_
            | refine And.intro (a := IR _ _) (And.intro (by omega) (by omega)) ?_
            | refine wrapE (And.intro (by omega) (by omega)) ?_
            | refine And.intro (a := (0 : Int) ≤ _ ∧ _ < _) (And.intro (by omega) (by omega)) ?_
            | refine And.intro (a := (_ : Bool) = true) (by simp only [Nat.beq_refl]; rfl) ?_
            | refine And.intro (a := ((_ : Bool) = true → 1 ≤ _) ∧ _ ≤ 9223372036854775807 ∧ _ ≤ 140737488355328) ⟨fun h => (by first | omega | cases h), by omega, by omega⟩ ?_
            | refine splT ?_
            | refine splF ?_
            | refine splNot ?_
            | (refine splIn (fun hc => ?_) (fun hc => ?_) <;> first | (exfalso; omega) | (exfalso; dsimp only at hc; omega) | skip)
            | (refine splD (fun hc => ?_) (fun hc => ?_) <;> first | (exfalso; omega) | (exfalso; dsimp only at hc; omega) | skip)
            | (refine splE (fun hc => ?_) (fun hc => ?_) <;> first | (exfalso; omega) | (exfalso; dsimp only at hc; omega) | skip)
            | (refine splNE (fun hc => ?_) (fun hc => ?_) <;> first | (exfalso; omega) | (exfalso; dsimp only at hc; omega) | skip)
        exact ⟨a + 1, by omega, by omega, Ent.weak rfl ⟨rfl, rfl, rfl, rfl, rfl, trivial⟩ ⟨rfl, by rw [hstA]; rfl, by rw [hstA]; rfl, by rw [hstA]; rfl, rfl, rfl, rfl, trivial⟩ fun _ h => h⟩
      · obtain rfl : a = 61 := by omega
        clear g1 g2
        generalize hgF ⟨b1, b2, b3, b4, b5, b6, b7, b8⟩ i F1 61 = G at *
        have hl0 : ∀ j v, (rwL (G.h i 0))[j]? = some v → (hgsL BB.length G)[(i : Int).toNat * ti144.size + (0 : Int).toNat * ti142.size + j]? = some v := fun j v h => by
          rw [Int.toNat_natCast]; exact hgs_get (k := i) (a := 0) (by omega) (by omega) h
        have hl1 : ∀ j v, (rwL (G.h i 1))[j]? = some v → (hgsL BB.length G)[(i : Int).toNat * ti144.size + (1 : Int).toNat * ti142.size + j]? = some v := fun j v h => by
          rw [Int.toNat_natCast]; exact hgs_get (k := i) (a := 1) (by omega) (by omega) h
        have c4' := hasB_mono c4 (show (i : Int) ≤ BB.length by omega)
        have c5' := hasB_mono c5 (show (i : Int) ≤ BB.length by omega)
        repeat'
          conv => whnf
          first
            | refine And.intro (a := drawB _ = true) (by kernel_rfl) ?_
            | refine And.intro (a := (_ : Bool) = true) rfl ?_
            | refine And.intro (a := (_ : Bool) = true ∧ (_ : Bool) = true) ⟨rfl, rfl⟩ ?_
            | refine And.intro (a := (_ : Bool) = true ∧ (_ : List _) = []) ⟨rfl, rfl⟩ ?_
            | refine And.intro (a := IR _ _) (And.intro (by omega) (by omega)) ?_
            | refine wrapE (And.intro (by omega) (by omega)) ?_
            | refine And.intro (a := (0 : Int) ≤ _ ∧ _ < _) (And.intro (by omega) (by omega)) ?_
            | refine And.intro (a := (_ : Bool) = true) (by simp only [Nat.beq_refl]; rfl) ?_
            | refine And.intro (a := ((_ : Bool) = true → 1 ≤ _) ∧ _ ≤ 9223372036854775807 ∧ _ ≤ 140737488355328) ⟨fun h => (by first | omega | cases h), by omega, by omega⟩ ?_
            | refine splT ?_
            | refine splF ?_
            | refine splNot ?_
            | (refine splIn (fun hc => ?_) (fun hc => ?_) <;> first | (exfalso; omega) | (exfalso; dsimp only at hc; omega) | skip)
            | (refine splD (fun hc => ?_) (fun hc => ?_) <;> first | (exfalso; omega) | (exfalso; dsimp only at hc; omega) | skip)
            | (refine splE (fun hc => ?_) (fun hc => ?_) <;> first | (exfalso; omega) | (exfalso; dsimp only at hc; omega) | skip)
            | (refine splNE (fun hc => ?_) (fun hc => ?_) <;> first | (exfalso; omega) | (exfalso; dsimp only at hc; omega) | skip)
            | refine nilE rfl rfl ?_
            | refine Exists.intro (α := List Value) (rwL (G.h i 0)) ⟨⟨rfl, hl0⟩, ?_⟩
            | refine Exists.intro (α := List Value) (rwL (G.h i 1)) ⟨⟨rfl, hl1⟩, ?_⟩
            | ((with_reducible show CallEv _ _ 91 [_, .agg [.v (iv b3), .v (iv b4)], _] _ _ _ _); refine callPut ⟨po, PP.length, pc, some ad, BB.length, bc, f0, f1, f2, lo, LL.length, lc⟩ PP.length BB.length G b3 b4 (G.h i 0) (by omega) (by omega) c4' (g4.tgt _ _) (g4.2.1 i 0) rfl rfl rfl (fun β => rfl) rfl ?_)
            | ((with_reducible show CallEv _ _ 91 [_, .agg [.v (iv b5), .v (iv b6)], _] _ _ _ _); refine callPut ⟨po, PP.length, pc, some ad, BB.length, bc, f0, f1, f2, lo, LL.length, lc⟩ PP.length BB.length (putF G b3 b4 (G.h i 0)) b5 b6 (G.h i 1) (by omega) (by omega) c5' (g3.tgt _ _) (g4.2.1 i 1) rfl rfl rfl (fun β => rfl) rfl ?_)
        exact ⟨k + 1, by omega, by omega, Ent.weak rfl ⟨rfl, rfl, by rw [hik2]; rfl, trivial⟩ ⟨rfl, by rw [hst]; rfl, by rw [hst, hgs_put, hgs_put]; rfl, by rw [hst]; rfl, rfl, rfl, trivial⟩ (fun _ h => h) (.inr ⟨rfl, ⟨rfl, trivial⟩, ⟨rfl, trivial⟩⟩)⟩
    · obtain rfl : k = BB.length := by omega
      repeat'
        conv => whnf
        first
          | refine And.intro (a := drawB _ = true) (by kernel_rfl) ?_
          | refine And.intro (a := (_ : Bool) = true) rfl ?_
          | refine And.intro (a := (_ : Bool) = true ∧ (_ : Bool) = true) ⟨rfl, rfl⟩ ?_
          | refine And.intro (a := (_ : Bool) = true ∧ (_ : List _) = []) ⟨rfl, rfl⟩ ?_
          | refine And.intro (a := IR _ _) (And.intro (by omega) (by omega)) ?_
          | refine wrapE (And.intro (by omega) (by omega)) ?_
          | refine And.intro (a := (0 : Int) ≤ _ ∧ _ < _) (And.intro (by omega) (by omega)) ?_
          | refine And.intro (a := (_ : Bool) = true) (by simp only [Nat.beq_refl]; rfl) ?_
          | refine And.intro (a := ((_ : Bool) = true → 1 ≤ _) ∧ _ ≤ 9223372036854775807 ∧ _ ≤ 140737488355328) ⟨fun h => (by first | omega | cases h), by omega, by omega⟩ ?_
          | refine splT ?_
          | refine splF ?_
          | refine splNot ?_
          | (refine splIn (fun hc => ?_) (fun hc => ?_) <;> first | (exfalso; omega) | (exfalso; dsimp only at hc; omega) | skip)
          | (refine splD (fun hc => ?_) (fun hc => ?_) <;> first | (exfalso; omega) | (exfalso; dsimp only at hc; omega) | skip)
          | (refine splE (fun hc => ?_) (fun hc => ?_) <;> first | (exfalso; omega) | (exfalso; dsimp only at hc; omega) | skip)
          | (refine splNE (fun hc => ?_) (fun hc => ?_) <;> first | (exfalso; omega) | (exfalso; dsimp only at hc; omega) | skip)
          | refine nilE rfl rfl ?_
      exact ⟨fun w' h => h, fun β w' hB' hblk => ⟨⟨β 7, β 1, β 2, β 3, β 4, β 5, β 6⟩, rfl, (((hblk 7 _ rfl rfl).and (hblk 1 _ rfl rfl)).and (hblk 3 _ rfl rfl)).imp fun w2 q => frIn_of (r := ⟨po, PP.length, pc, bo, BB.length, bc, f0, f1, f2, lo, LL.length, lc⟩) q.1.1 q.1.2 q.2⟩⟩
end Go.Proofs.Ytaciigegbgnadaa
