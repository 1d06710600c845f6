/- Tours: how they lie in memory; days lost, what a day brings, what a stop brings, the greatest of two: what these functions return. -/
import Derived.Test.YthfabodamhdhaaaM0
namespace Go.Proofs.Ythfabodamhdhaaa
open Go Tx Go.RowKit
set_option linter.unusedSimpArgs false
set_option linter.unusedVariables false
abbrev prF (r : Int × Int) : List Value := [iv r.1, iv r.2]
structure Tw where
 O : List (Int × Int)
 s1 : Int
 s2 : Int
 pay : Int
 lot : Int
 rent : Int
 R : List (Int × Int)
 cold : Int
 cut : Int
structure Tn where
 oo : Option Addr
 oc : Nat
 ro : Option Addr
 rc : Nat
 d : Tw
abbrev Tn.cs (x : Tn) : List Value := [.slice x.oo x.d.O.length x.oc, iv x.d.s1, iv x.d.s2, iv x.d.pay, iv x.d.lot, iv x.d.rent, .slice x.ro x.d.R.length x.rc, iv x.d.cold, iv x.d.cut]
structure Lr where
 o : Option Addr
 c : Nat
 L : List (Int × Int)
abbrev Lr.cs (x : Lr) : List Value := [.slice x.o x.L.length x.c]
structure To where
 days : Int
 shift : Int
 size : Int
 T : List Tw
 L : List (List (Int × Int))
structure Tr where
 days : Int
 shift : Int
 size : Int
 to : Option Addr
 tc : Nat
 T : List Tn
 lo : Option Addr
 lc : Nat
 L : List Lr
abbrev Tr.cs (x : Tr) : List Value := [iv x.days, iv x.shift, iv x.size, .slice x.to x.T.length x.tc, .slice x.lo x.L.length x.lc]
abbrev Tr.v (x : Tr) : Value := .agg #[iv x.days, iv x.shift, iv x.size, .slice x.to x.T.length x.tc, .slice x.lo x.L.length x.lc]
abbrev Tr.d (x : Tr) : To := ⟨x.days, x.shift, x.size, x.T.map Tn.d, x.L.map Lr.L⟩
structure TnIn (t : Tn) (w : World) : Prop where
 o : Rd 2 prF (.slice t.oo t.d.O.length t.oc) t.d.O w
 r : Rd 2 prF (.slice t.ro t.d.R.length t.rc) t.d.R w
 ol : t.d.O.length ≤ 1000000
 rl : t.d.R.length ≤ 1000000
structure TrIn (x : Tr) (w : World) : Prop where
 t : Rd 9 Tn.cs (.slice x.to x.T.length x.tc) x.T w
 ti : ∀ t ∈ x.T, TnIn t w
 l : Rd 1 Lr.cs (.slice x.lo x.L.length x.lc) x.L w
 li : ∀ r ∈ x.L, Rd 2 prF (.slice r.o r.L.length r.c) r.L w
 tl : x.T.length ≤ 1000000
 ll : x.L.length ≤ 1000000
 lr : ∀ r ∈ x.L, r.L.length ≤ 1000000
 tcap : x.T.length ≤ x.tc
theorem TnIn.below {t : Tn} {w w' : World} (h : TnIn t w) (hb : Below w.heap.size w w') : TnIn t w' := ⟨h.o.below hb, h.r.below hb, h.ol, h.rl⟩
theorem TrIn.below {x : Tr} {w w' : World} (h : TrIn x w) (hb : Below w.heap.size w w') : TrIn x w' := ⟨h.t.below hb, fun t ht => (h.ti t ht).below hb, h.l.below hb, fun r hr => (h.li r hr).below hb, h.tl, h.ll, h.lr, h.tcap⟩
def apB (days : Int) : Int → List (Int × Int) → Bool
 | _, [] => true
 | last, r :: l => (decide (last + 1 ≤ r.1) && (decide (r.1 ≤ r.2) && decide (r.2 ≤ days - 1))) && apB days r.2 l
def twB (days : Int) (x : Tw) : Bool :=
 inB x.O.length 1 3 && (apB days (-1) x.O && ((decide (1 ≤ x.s1) && (decide (x.s1 ≤ x.s2) && decide (x.s2 ≤ 10))) && (inB x.pay 0 1000000 && (inB x.lot 0 100000 && (inB x.rent 0 1000000 &&
  (decide (x.R.length ≤ 3) && ((x.R.all fun r => decide (-60 ≤ r.1) && (decide (r.1 ≤ r.2) && decide (r.2 ≤ 60))) && (inB x.cold 0 60 && inB x.cut 0 1000))))))))
def quB (x : Tw) : Bool := decide (x.O.length + x.R.length = 0) && (decide (x.s1 = 0) && (decide (x.s2 = 0) && (decide (x.pay = 0) && (decide (x.lot = 0) && (decide (x.rent = 0) && (decide (x.cold = 0) && decide (x.cut = 0)))))))
def lgB (n i : Nat) (l : List (Int × Int)) : Bool := decide (l.length = n) && (decide (l[i]? = some (0, 0)) && l.all fun x => inB x.1 0 200 && inB x.2 0 1000000)
def toB (x : To) : Bool :=
 (inB x.days 1 60 && (inB x.shift 1 24 && (inB x.size 0 100000 && (inB x.T.length 2 9 && decide (x.L.length = x.T.length))))) &&
  (((x.T[0]?).any quB && (x.T.drop 1).all (twB x.days)) && (List.range x.L.length).all fun i => (x.L[i]?).any (lgB x.T.length i))
theorem within_ok (n lo hi : Int) (w : World) : Calls Try.prog 70 #[iv n, iv lo, iv hi] w fun e w' => e = .returned (.bool (inB n lo hi)) ∧ Below w.heap.size w w' := by
 refine calls_val env mixed Try.func70 has70 Try.ntmps70 [iv n, iv lo, iv hi] (by simp) ?_
 repeat'
  conv => whnf
  first
   | refine zA ?_ | refine zB ?_ | refine zC ?_ | refine zD ?_ | refine zE ?_ | refine zF ?_ | refine zG ?_ | refine zH ?_ | refine zJ ?_ | refine zI ?_ | refine splT ?_ | refine splF ?_ | refine splNot ?_
   | ((first | refine splIn ?_ ?_ | refine splD ?_ ?_ | refine splE ?_ ?_ | refine splNE ?_ ?_) <;> intro hc <;> first | (exfalso; omega) | (exfalso; dsimp only at hc; omega) | skip)
 all_goals exact ⟨fun β => congrArg Value.bool (by simp [inB, *]), fun w' h => h⟩
theorem In_ok (n lo hi : Int) (w : World) : Calls Try.prog 37 #[iv n, iv lo, iv hi] w fun e w' => e = .returned (.bool (inB n lo hi)) ∧ Below w.heap.size w w' := by
 refine calls_val env mixed Try.func37 has37 Try.ntmps37 [iv n, iv lo, iv hi] (by simp) ?_
 repeat'
  conv => whnf
  first
   | refine zA ?_ | refine zB ?_ | refine zC ?_ | refine zD ?_ | refine zE ?_ | refine zF ?_ | refine zG ?_ | refine zH ?_ | refine zJ ?_ | refine zI ?_ | refine splT ?_ | refine splF ?_ | refine splNot ?_
   | ((first | refine splIn ?_ ?_ | refine splD ?_ ?_ | refine splE ?_ ?_ | refine splNE ?_ ?_) <;> intro hc <;> first | (exfalso; omega) | (exfalso; dsimp only at hc; omega) | skip)
 all_goals exact ⟨fun β => congrArg Value.bool (by simp [inB, *]), fun w' h => h⟩
def lgO (x : To) (f t : Nat) : Int × Int := (((x.L[f]?).getD [])[t]?).getD (0, 0)
def lsO (x : To) (f t : Nat) : Int := imax 0 (((lgO x f t).1 + x.shift - 1).tdiv x.shift - 1)
structure ToN (x : To) : Prop where
 d : 1 ≤ x.days ∧ x.days ≤ 60
 s : 1 ≤ x.shift ∧ x.shift ≤ 24
 z : 0 ≤ x.size ∧ x.size ≤ 100000
 n : 2 ≤ x.T.length ∧ x.T.length ≤ 9
 l : x.L.length = x.T.length
 lr : ∀ r ∈ x.L, r.length = x.T.length ∧ ∀ p ∈ r, (0 ≤ p.1 ∧ p.1 ≤ 200) ∧ 0 ≤ p.2 ∧ p.2 ≤ 1000000
 t : ∀ k, 1 ≤ k → ∀ t, x.T[k]? = some t → twB x.days t = true
theorem ToN.leg {x : To} (h : ToN x) (f t : Nat) : (0 ≤ (lgO x f t).1 ∧ (lgO x f t).1 ≤ 200) ∧ 0 ≤ (lgO x f t).2 ∧ (lgO x f t).2 ≤ 1000000 := by
 unfold lgO
 cases hr : x.L[f]? with
 | none => simp
 | some r =>
  simp only [Option.getD_some]
  cases hp : r[t]? with
  | none => simp
  | some p => exact (h.lr r (List.mem_of_getElem? hr)).2 p (List.mem_of_getElem? hp)
theorem ToN.lost {x : To} (h : ToN x) (f t : Nat) : 0 ≤ lsO x f t ∧ lsO x f t ≤ 200 := by
 have h1 := h.leg f t
 have h2 := h.s
 unfold lsO
 have h3 : ((lgO x f t).1 + x.shift - 1).tdiv x.shift ≤ (lgO x f t).1 + x.shift - 1 := by
  rw [Int.tdiv_eq_ediv_of_nonneg (by omega)]
  exact Int.ediv_le_self _ (by omega)
 have h4 : (lgO x f t).1 + x.shift - 1 ≤ 224 := by omega
 have h5 : ((lgO x f t).1 + x.shift - 1).tdiv x.shift ≤ 200 := by
  rw [Int.tdiv_eq_ediv_of_nonneg (by omega)]
  refine Int.ediv_le_of_le_mul (by omega) ?_
  have : 200 * x.shift ≥ 200 * 1 := Int.mul_le_mul_of_nonneg_left (by omega) (by omega)
  omega
 rw [imax_eq]
 omega
set_option maxHeartbeats 1000000 in
set_option maxRecDepth 100000 in
theorem lost_ok (x : Tr) (f t : Nat) (w : World) (h : TrIn x w) (hn : ToN x.d) (hf : f < x.T.length) (ht : t < x.T.length) :
 Calls Try.prog 72 #[x.v, iv f, iv t] w fun e w' => e = .returned (iv (lsO x.d f t)) ∧ Below w.heap.size w w' := by
 obtain ⟨days, shift, size, to, tc, T, lo, lc, L⟩ := x
 obtain ⟨h1, h2, h3, h4, htl, hll, hlr, -⟩ := h
 have hs := hn.s
 have hlg := hn.leg f t
 have hls := hn.lost f t
 have hl := hn.l
 have hn9 := hn.n
 have hr9 := hn.lr
 dsimp only [Tr.d] at h1 h2 h3 h4 htl hll hlr hf ht hs hl hn9 hr9 ⊢
 simp only [List.length_map] at hl hn9 hr9
 refine calls_val env mixed Try.func72 has72 Try.ntmps72 [.agg #[iv days, iv shift, iv size, .slice to T.length tc, .slice lo L.length lc], iv f, iv t] (by simp) ?_
 obtain ⟨⟨ro, rc, r⟩, hr⟩ : ∃ r, L[f]? = some r := ⟨_, List.getElem?_eq_getElem (by omega)⟩
 have hrl := hr9 r (List.mem_of_getElem? (i := f) (by rw [List.getElem?_map, hr]; rfl))
 obtain ⟨⟨p1, p2⟩, hp⟩ : ∃ p, r[t]? = some p := ⟨_, List.getElem?_eq_getElem (by omega)⟩
 have hrd := h4 _ (List.mem_of_getElem? hr)
 dsimp only at hrd
 obtain ⟨_, la, rfl, _⟩ := h3.ptr (by omega)
 obtain ⟨_, ra, rfl, _⟩ := hrd.ptr (by omega)
 have hlgo : lgO (Tr.d ⟨days, shift, size, to, tc, T, some la, lc, L⟩) f t = (p1, p2) := by
  simp only [lgO, Tr.d, List.getElem?_map, hr, Option.map_some, Option.getD_some, hp]
 have e1 := fun (w' : World) hw' => rd_ati (h3.below (w' := w') hw') hr
 have e2 := fun (w' : World) hw' => rd_fld (hrd.below (w' := w') hw') hp 0 (iv p1) rfl
 have hv : lsO (Tr.d ⟨days, shift, size, to, tc, T, some la, lc, L⟩) f t = imax 0 ((p1 + shift - 1).tdiv shift - 1) := by unfold lsO; rw [hlgo]
 rw [hlgo] at hlg
 have hq : 0 ≤ (p1 + shift - 1).tdiv shift ∧ (p1 + shift - 1).tdiv shift ≤ 300 := by
  rw [hv, imax_eq] at hls
  have := Int.tdiv_nonneg (a := p1 + shift - 1) (b := shift) (by omega) (by omega)
  omega
 rw [hv]
 generalize hqq : (p1 + shift - 1).tdiv shift = q at *
 repeat'
  conv => whnf
  first
   | refine zA ?_ | refine zB ?_ | refine zC ?_ | refine zD ?_ | refine zE ?_ | refine zF ?_ | refine zG ?_ | refine zH ?_ | refine zJ ?_ | refine zI ?_ | refine splT ?_ | refine splF ?_ | refine splNot ?_
   | ((first | refine splIn ?_ ?_ | refine splD ?_ ?_ | refine splE ?_ ?_ | refine splNE ?_ ?_) <;> intro hc <;> first | (exfalso; omega) | (exfalso; dsimp only at hc; omega) | skip)
   | refine Exists.intro (α := List Value) [.slice (some ra) r.length rc] ⟨⟨rfl, fun w' hw' => e1 w' hw'⟩, ?_⟩
   | refine Exists.intro (α := List Value) [iv p1] ⟨⟨rfl, fun w' hw' => e2 w' hw'⟩, ?_⟩
   | refine Exists.intro (α := Int) q ⟨⟨by omega, hqq, by constructor <;> omega⟩, ?_⟩
 all_goals first | (exfalso; omega) | exact ⟨fun β => rfl, fun w' h => h⟩
end Go.Proofs.Ythfabodamhdhaaa
