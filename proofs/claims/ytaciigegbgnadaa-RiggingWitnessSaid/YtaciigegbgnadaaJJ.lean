/- RiggingWitness answers true. By JJ.py. -/
import Derived.Test.YtaciigegbgnadaaJI
namespace Go.Proofs.Ytaciigegbgnadaa
open Go Tx Go.RowKit
set_option linter.unusedSimpArgs false
set_option linter.unusedVariables false

def knB (L : List (Int × Int)) (b a : Int) (k : Nat) : Bool := (L.take k).any fun q => q.1 == b && q.2 == a
theorem knB_succ {L : List (Int × Int)} {b a : Int} {k : Nat} {q : Int × Int} (h : L[k]? = some q) : knB L b a (k + 1) = (knB L b a k || (q.1 == b && q.2 == a)) := by
  unfold knB
  rw [List.take_add_one, h]
  simp
theorem knB_all {L : List (Int × Int)} {b a : Int} (h : (b, a) ∈ L) : knB L b a L.length = true := by
  unfold knB
  rw [List.take_length, List.any_eq_true]
  exact ⟨_, h, by simp⟩

set_option maxHeartbeats 16000000 in
set_option maxRecDepth 100000 in
theorem Wit11 (po bo lo : Option Addr) (pn pc bn bc ln lc : Nat) (f0 f1 f2 : Int) (PP : List Int) (BB : List Bm) (LL : List Ld) (A : List Int) (w : World) (hX : RigX ⟨po, pn, pc, bo, bn, bc, f0, f1, f2, lo, ln, lc⟩ PP BB LL w) (hr : rigOk f0 f1 f2 PP BB LL = true) (hA : pulB ⟨po, pn, pc, bo, bn, bc, f0, f1, f2, lo, ln, lc⟩ LL A = true)
    (b1 a1 : Int) (x1' : Row) (hW1 : ovO ⟨po, pn, pc, bo, bn, bc, f0, f1, f2, lo, ln, lc⟩ PP BB LL (frF BB LL) = some (b1, a1, x1'))
    (b2 a2 : Int) (x2' : Row) (hW2 : slO ⟨po, pn, pc, bo, bn, bc, f0, f1, f2, lo, ln, lc⟩ BB LL (frF BB LL) = some (b2, a2, x2'))
    (y : (Option Addr × Nat) × (Option Addr × Nat) × (Option Addr × Nat)) (ya : Option Addr × Nat) : VC Try.prog (rest 3 body11) ⟨194, [(2, .ptr 0 0), (5, .ptr 9 0), (6, .v (sV A.length ya))], [(0, .cells [.v (.slice po pn pc), .v (.slice bo bn bc), .v (iv f0), .v (iv f1), .v (iv f2), .v (.slice lo ln lc)] 48), (9, .cells [.v (sV PP.length y.1), .v (sV BB.length y.2.1), .v (iv f0), .v (iv f1), .v (iv f2), .v (sV LL.length y.2.2)] 58)], 10, fun w2 => (Below w.heap.size w w2 ∧ nrH PP BB LL y w2) ∧ Rd 1 iF (sV A.length ya) A w2, z0⟩ (endΦ env Try.f11 fun s σ => (∀ β, s.c β = .bool true) ∧ ∀ w', σ.h w' → Below w.heap.size w w') := by
  refine VC.of env mixed ?_
  have hri := rigOk_iff.1 hr
  have hpn := hX.pn
  have hbn := hX.bn
  dsimp only at hpn hbn
  subst hpn
  subst hbn
  have hm12 : BB.length ≤ 12 := hri.2.2.1
  have hl20 := hri.2.2.2.2.1
  have hlA := pulB_len hA
  have h41 := fun (w' : World) (h : nrH PP BB LL y w') => Over_nr PP BB LL f0 f1 f2 ⟨po, PP.length, pc, bo, BB.length, bc, f0, f1, f2, lo, ln, lc⟩ (ovO ⟨po, PP.length, pc, bo, BB.length, bc, f0, f1, f2, lo, ln, lc⟩ PP BB LL (frF BB LL)) (by rw [hr]; rfl) ⟨rfl, rfl, rfl⟩ y w' h (by omega) (by omega) (by omega)
  have h42 := fun (w' : World) (h : nrH PP BB LL y w') => Slack_nr PP BB LL f0 f1 f2 ⟨po, PP.length, pc, bo, BB.length, bc, f0, f1, f2, lo, ln, lc⟩ (slO ⟨po, PP.length, pc, bo, BB.length, bc, f0, f1, f2, lo, ln, lc⟩ BB LL (frF BB LL)) (by rw [hr]; rfl) ⟨rfl, rfl, rfl⟩ y w' h (by omega) (by omega) (by omega)
  have h39 := fun (w' : World) => Parts_ok ⟨po, PP.length, pc, bo, BB.length, bc, f0, f1, f2, lo, ln, lc⟩ w' (by dsimp only; omega) (by dsimp only; omega)
  dsimp only at h39
  have h47 := fun (b a : Int) (w' : World) (hb : Below w.heap.size w w') (hp : partOk PP.length BB.length b a) => Limit_ok ⟨po, PP.length, pc, bo, BB.length, bc, f0, f1, f2, lo, ln, lc⟩ PP BB LL b a w' (hX.below hb) hr hp
  have h46 := fun (b a : Int) (hp : partOk PP.length BB.length b a) (w' : World) (h : nrH PP BB LL y w') (hP : Rd 1 iF (.slice ya.1 A.length ya.2) A w') => borne_ok PP BB LL f0 f1 f2 ⟨po, PP.length, pc, bo, BB.length, bc, f0, f1, f2, lo, ln, lc⟩ hr ⟨rfl, rfl, rfl⟩ A hA y ya.1 ya.2 b a hp w' h hP
  have hLl := prL_len PP.length BB.length
  have hLok := fun (k : Nat) (q : Int × Int) (h : (prL PP.length BB.length)[k]? = some q) => prL_ok h
  obtain ⟨hx1, hq1, hp1, hd1⟩ := ov_some hW1
  have hkn := knB_all hq1
  have hpu1 := endL_pul (r := ⟨po, PP.length, pc, bo, BB.length, bc, f0, f1, f2, lo, ln, lc⟩) hr x1' true
  have h46a := fun (o : Option Addr) (c : Nat) (w' : World) (h : nrH PP BB LL y w') (hP : Rd 1 iF (.slice o (endL ⟨po, PP.length, pc, bo, BB.length, bc, f0, f1, f2, lo, ln, lc⟩ x1' true LL).length c) (endL ⟨po, PP.length, pc, bo, BB.length, bc, f0, f1, f2, lo, ln, lc⟩ x1' true LL) w') => borne_ok PP BB LL f0 f1 f2 ⟨po, PP.length, pc, bo, BB.length, bc, f0, f1, f2, lo, ln, lc⟩ hr ⟨rfl, rfl, rfl⟩ _ hpu1 y o c b1 a1 hp1 w' h hP
  have h47a := fun (w' : World) (hb : Below w.heap.size w w') => h47 b1 a1 w' hb hp1
  rw [hW1, hr] at h41
  dsimp only [Wk.b, Wk.a, Wk.pl, Wk.e] at h41
  clear hpu1
  generalize endL ⟨po, PP.length, pc, bo, BB.length, bc, f0, f1, f2, lo, ln, lc⟩ x1' true LL = P1 at *
  generalize dotR (rowP (frF BB LL) b1 a1) P1 P1.length = val1 at *
  generalize limP PP BB b1 a1 * 216000 = lim1 at *
  obtain ⟨hx2, hq2, hd2⟩ := sl_some (PP := PP) hW2
  have hpu2 := endL_pul (r := ⟨po, PP.length, pc, bo, BB.length, bc, f0, f1, f2, lo, ln, lc⟩) hr x2' false
  have h46b := fun (o : Option Addr) (c : Nat) (w' : World) (h : nrH PP BB LL y w') (hP : Rd 1 iF (.slice o (endL ⟨po, PP.length, pc, bo, BB.length, bc, f0, f1, f2, lo, ln, lc⟩ x2' false LL).length c) (endL ⟨po, PP.length, pc, bo, BB.length, bc, f0, f1, f2, lo, ln, lc⟩ x2' false LL) w') => borne_ok PP BB LL f0 f1 f2 ⟨po, PP.length, pc, bo, BB.length, bc, f0, f1, f2, lo, ln, lc⟩ hr ⟨rfl, rfl, rfl⟩ _ hpu2 y o c b2 a2 (.inr hq2) w' h hP
  rw [hW2, hr] at h42
  dsimp only [Wk.b, Wk.a, Wk.pl, Wk.e] at h42
  clear hpu2
  generalize endL ⟨po, PP.length, pc, bo, BB.length, bc, f0, f1, f2, lo, ln, lc⟩ x2' false LL = P2 at *
  generalize dotR (rowP (frF BB LL) b2 a2) P2 P2.length = val2 at *
  generalize prL PP.length BB.length = L at *
  obtain ⟨ya1, ya2⟩ := ya
  dsimp only at h46
  repeat'
   conv => whnf
   first
    | refine zA ?_ | refine zB ?_ | refine zC ?_ | refine zD ?_ | refine zE ?_ | refine zF ?_ | refine zG ?_ | refine zH ?_ | refine zI ?_ | refine splT ?_ | refine splF ?_ | refine splNot ?_
    | ((first | refine splIn (fun hc => ?_) (fun hc => ?_) | refine splD (fun hc => ?_) (fun hc => ?_) | refine splE (fun hc => ?_) (fun hc => ?_) | refine splNE (fun hc => ?_) (fun hc => ?_)) <;> first | (exfalso; omega) | (exfalso; dsimp only at hc; omega) | skip)
    | ((with_reducible show CallEv _ _ 41 _ _ _ _ _); refine callF [] (fun z : Option Addr × Nat => .tuple #[.agg #[iv b1, iv a1], sV P1.length z, iv 0]) (fun z => Rd 1 iF (sV P1.length z) P1) (fun β w' _ hbw => h41 w' hbw.1.2) ?_; intro z; obtain ⟨z1, z2⟩ := z; dsimp only)
    | ((with_reducible show CallEv _ _ 42 _ _ _ _ _); refine callF [] (fun z : Option Addr × Nat => .tuple #[.agg #[iv b2, iv a2], sV P2.length z, iv 0]) (fun z => Rd 1 iF (sV P2.length z) P2) (fun β w' _ hbw => h42 w' hbw.1.1.2) ?_; intro z; obtain ⟨x1, x2⟩ := z; dsimp only)
    | ((with_reducible show CallEv _ _ 39 _ _ _ _ _); refine callF [] (fun y : YS L => sV L.length y.1) (fun y => Rd 2 gF (sV L.length y.1) L) (fun β w' _ hbw => h39 w') ?_; intro u; obtain ⟨⟨u1, u2⟩, hu0⟩ := u; dsimp only at hu0 ⊢)
  all_goals first | (exfalso; omega) | skip
  have hL1 : 1 ≤ L.length := by omega
  have hL36 : L.length ≤ 36 := by omega
  obtain ⟨ua, rfl⟩ := hu0.resolve_left fun hc => by rw [hc] at hL1; simp at hL1
  refine loopN 13 (fun k : Nat => [(2, .ptr 0 0), (5, .ptr 9 0), (6, .v (sV A.length (ya1, ya2))), (8, .v (sV P1.length (z1, z2))), (9, .v (iv 0)), (11, .v (sV P2.length (x1, x2))), (12, .v (iv 0)), (13, .v (sV L.length (some ua, u2))), (10, .ptr 11 0), (14, .ptr 12 0), (15, .v (.bool (knB L b1 a1 k))), (16, .v (iv k))]) (fun _ => [(0, .cells [.v (.slice po PP.length pc), .v (.slice bo BB.length bc), .v (iv f0), .v (iv f1), .v (iv f2), .v (.slice lo ln lc)] 48), (9, .cells [.v (sV PP.length y.1), .v (sV BB.length y.2.1), .v (iv f0), .v (iv f1), .v (iv f2), .v (sV LL.length y.2.2)] 58), (11, .cells [.v (iv b2), .v (iv a2)] 95), (12, .cells [.v (iv b1), .v (iv a1)] 91)])
    (fun k => k ≤ L.length) (fun k => L.length - k) 0 (Nat.zero_le _) ⟨rfl, rfl, rfl, rfl, rfl, rfl, rfl, rfl, rfl, rfl, rfl, rfl, trivial⟩ ⟨rfl, rfl, rfl, rfl, trivial⟩ (fun _ _ => ⟨rfl, rfl⟩) ?_
  intro k hk
  rcases Nat.lt_or_ge k L.length with hkl | hkl
  · obtain ⟨q, hq⟩ : ∃ q, L[k]? = some q := ⟨_, List.getElem?_eq_getElem hkl⟩
    have hks := knB_succ (b := b1) (a := a1) hq
    obtain ⟨q1, q2⟩ := q
    dsimp only at hks
    cases hk1 : knB L b1 a1 k <;> rw [hk1] at hks
    all_goals skip
    repeat'
     conv => whnf
     first
      | refine zA ?_ | refine zB ?_ | refine zC ?_ | refine zD ?_ | refine zE ?_ | refine zF ?_ | refine zG ?_ | refine zH ?_ | refine zI ?_ | refine splT ?_ | refine splF ?_ | refine splNot ?_
      | ((first | refine splIn (fun hc => ?_) (fun hc => ?_) | refine splD (fun hc => ?_) (fun hc => ?_) | refine splE (fun hc => ?_) (fun hc => ?_) | refine splNE (fun hc => ?_) (fun hc => ?_)) <;> first | (exfalso; omega) | (exfalso; dsimp only at hc; omega) | skip)
      | refine Exists.intro (α := List Value) [iv q1, iv q2] ⟨⟨rfl, fun w' hw' => rd_ati hw'.2 hq⟩, ?_⟩
      | refine eqlE91 rfl ?_
    all_goals first | (exfalso; omega) | exact ⟨k + 1, by omega, by omega, Ent.weak rfl ⟨rfl, rfl, rfl, rfl, rfl, rfl, rfl, rfl, rfl, rfl, by rw [hks]; rfl, rfl, trivial⟩ ⟨rfl, rfl, rfl, rfl, trivial⟩ fun _ h => h⟩
  obtain rfl : k = L.length := by omega
  rw [hkn]
  repeat'
   conv => whnf
   first
    | refine zA ?_ | refine zB ?_ | refine zC ?_ | refine zD ?_ | refine zE ?_ | refine zF ?_ | refine zG ?_ | refine zH ?_ | refine zI ?_ | refine splT ?_ | refine splF ?_ | refine splNot ?_
    | ((first | refine splIn (fun hc => ?_) (fun hc => ?_) | refine splD (fun hc => ?_) (fun hc => ?_) | refine splE (fun hc => ?_) (fun hc => ?_) | refine splNE (fun hc => ?_) (fun hc => ?_)) <;> first | (exfalso; omega) | (exfalso; dsimp only at hc; omega) | skip)
    | ((with_reducible show CallEv _ _ 46 [_, .v (sV _ (z1, z2)), _] _ _ _ _); refine callE (k := 46) (fun β w' hbw => h46a _ _ w' hbw.1.1.1.1.2 hbw.1.1.2) ?_)
    | ((with_reducible show CallEv _ _ 47 _ _ _ _ _); refine callE (k := 47) (fun β w' hbw => h47a _ hbw.1.1.1.1.1) ?_)
    | ((with_reducible show CallEv _ _ 46 [_, .v (sV _ (x1, x2)), _] _ _ _ _); refine callE (k := 46) (fun β w' hbw => h46b _ _ w' hbw.1.1.1.1.2 hbw.1.2) ?_)
  all_goals first | (exfalso; omega) | skip
  refine loopN 13 (fun k : Nat => [(2, .ptr 0 0), (5, .ptr 9 0), (6, .v (sV A.length (ya1, ya2))), (9, .v (iv 0)), (12, .v (iv 0)), (13, .v (sV L.length (some ua, u2))), (21, .v (iv k))]) (fun _ => [(0, .cells [.v (.slice po PP.length pc), .v (.slice bo BB.length bc), .v (iv f0), .v (iv f1), .v (iv f2), .v (.slice lo ln lc)] 48), (9, .cells [.v (sV PP.length y.1), .v (sV BB.length y.2.1), .v (iv f0), .v (iv f1), .v (iv f2), .v (sV LL.length y.2.2)] 58)])
    (fun k => k ≤ L.length) (fun k => L.length - k) 0 (Nat.zero_le _) ⟨rfl, rfl, rfl, rfl, rfl, rfl, rfl, trivial⟩ ⟨rfl, rfl, trivial⟩ (fun _ _ => ⟨rfl, rfl⟩) ?_
  clear hk hkl
  intro k hk
  rcases Nat.lt_or_ge k L.length with hkl | hkl
  · obtain ⟨q, hq⟩ : ∃ q, L[k]? = some q := ⟨_, List.getElem?_eq_getElem hkl⟩
    have hpq := hLok k q hq
    have h46 := fun (w' : World) h1 h2 => h46 q.1 q.2 hpq w' h1 h2
    have h47 := fun (w' : World) hb => h47 q.1 q.2 w' hb hpq
    obtain ⟨q1, q2⟩ := q
    dsimp only at *
    generalize dotR (rowP (frF BB LL) q1 q2) A A.length = val at *
    generalize limP PP BB q1 q2 * 216000 = lim at *
    repeat'
     conv => whnf
     first
      | refine zA ?_ | refine zB ?_ | refine zC ?_ | refine zD ?_ | refine zE ?_ | refine zF ?_ | refine zG ?_ | refine zH ?_ | refine zI ?_ | refine splT ?_ | refine splF ?_ | refine splNot ?_
      | ((first | refine splIn (fun hc => ?_) (fun hc => ?_) | refine splD (fun hc => ?_) (fun hc => ?_) | refine splE (fun hc => ?_) (fun hc => ?_) | refine splNE (fun hc => ?_) (fun hc => ?_)) <;> first | (exfalso; omega) | (exfalso; dsimp only at hc; omega) | skip)
      | refine Exists.intro (α := List Value) [iv q1, iv q2] ⟨⟨rfl, fun w' hw' => rd_ati hw'.2 hq⟩, ?_⟩
      | refine Exists.intro (α := List Value) [iv q1] ⟨⟨rfl, fun w' hw' => rd_fld hw'.2 hq 0 (iv q1) rfl⟩, ?_⟩
      | ((with_reducible show CallEv _ _ 46 _ _ _ _ _); refine callE (k := 46) (fun β w' hbw => h46 _ hbw.1.1.1.1.2 hbw.1.1.1.2) ?_)
      | ((with_reducible show CallEv _ _ 47 _ _ _ _ _); refine callE (k := 47) (fun β w' hbw => h47 _ hbw.1.1.1.1.1) ?_)
    all_goals first | (exfalso; omega) | exact ⟨k + 1, by omega, by omega, Ent.weak rfl ⟨rfl, rfl, rfl, rfl, rfl, rfl, rfl, trivial⟩ ⟨rfl, rfl, trivial⟩ fun _ h => h⟩
  · skip
    repeat'
     conv => whnf
     first
      | refine zA ?_ | refine zB ?_ | refine zC ?_ | refine zD ?_ | refine zE ?_ | refine zF ?_ | refine zG ?_ | refine zH ?_ | refine zI ?_ | refine splT ?_ | refine splF ?_ | refine splNot ?_
      | ((first | refine splIn (fun hc => ?_) (fun hc => ?_) | refine splD (fun hc => ?_) (fun hc => ?_) | refine splE (fun hc => ?_) (fun hc => ?_) | refine splNE (fun hc => ?_) (fun hc => ?_)) <;> first | (exfalso; omega) | (exfalso; dsimp only at hc; omega) | skip)
      | ((with_reducible show CallEv _ _ 16 _ _ _ _ _); refine callE (k := 16) (fun β w' hbw => awake_ok _) ?_)
    all_goals first | (exfalso; omega) | exact ⟨fun β => rfl, fun w' h => h.1.1.1.1.1⟩

set_option maxHeartbeats 16000000 in
set_option maxRecDepth 100000 in
theorem Wit10 (po bo lo : Option Addr) (pn pc bn bc ln lc : Nat) (f0 f1 f2 : Int) (PP : List Int) (BB : List Bm) (LL : List Ld) (A : List Int) (w : World) (hX : RigX ⟨po, pn, pc, bo, bn, bc, f0, f1, f2, lo, ln, lc⟩ PP BB LL w) (hr : rigOk f0 f1 f2 PP BB LL = true) (hA : pulB ⟨po, pn, pc, bo, bn, bc, f0, f1, f2, lo, ln, lc⟩ LL A = true)
    (b1 a1 : Int) (x1' : Row) (hW1 : ovO ⟨po, pn, pc, bo, bn, bc, f0, f1, f2, lo, ln, lc⟩ PP BB LL (frF BB LL) = some (b1, a1, x1'))
    (hW2 : slO ⟨po, pn, pc, bo, bn, bc, f0, f1, f2, lo, ln, lc⟩ BB LL (frF BB LL) = none)
    (y : (Option Addr × Nat) × (Option Addr × Nat) × (Option Addr × Nat)) (ya : Option Addr × Nat) : VC Try.prog (rest 3 body11) ⟨194, [(2, .ptr 0 0), (5, .ptr 9 0), (6, .v (sV A.length ya))], [(0, .cells [.v (.slice po pn pc), .v (.slice bo bn bc), .v (iv f0), .v (iv f1), .v (iv f2), .v (.slice lo ln lc)] 48), (9, .cells [.v (sV PP.length y.1), .v (sV BB.length y.2.1), .v (iv f0), .v (iv f1), .v (iv f2), .v (sV LL.length y.2.2)] 58)], 10, fun w2 => (Below w.heap.size w w2 ∧ nrH PP BB LL y w2) ∧ Rd 1 iF (sV A.length ya) A w2, z0⟩ (endΦ env Try.f11 fun s σ => (∀ β, s.c β = .bool true) ∧ ∀ w', σ.h w' → Below w.heap.size w w') := by
  refine VC.of env mixed ?_
  have hri := rigOk_iff.1 hr
  have hpn := hX.pn
  have hbn := hX.bn
  dsimp only at hpn hbn
  subst hpn
  subst hbn
  have hm12 : BB.length ≤ 12 := hri.2.2.1
  have hl20 := hri.2.2.2.2.1
  have hlA := pulB_len hA
  have h41 := fun (w' : World) (h : nrH PP BB LL y w') => Over_nr PP BB LL f0 f1 f2 ⟨po, PP.length, pc, bo, BB.length, bc, f0, f1, f2, lo, ln, lc⟩ (ovO ⟨po, PP.length, pc, bo, BB.length, bc, f0, f1, f2, lo, ln, lc⟩ PP BB LL (frF BB LL)) (by rw [hr]; rfl) ⟨rfl, rfl, rfl⟩ y w' h (by omega) (by omega) (by omega)
  have h42 := fun (w' : World) (h : nrH PP BB LL y w') => Slack_nr PP BB LL f0 f1 f2 ⟨po, PP.length, pc, bo, BB.length, bc, f0, f1, f2, lo, ln, lc⟩ (slO ⟨po, PP.length, pc, bo, BB.length, bc, f0, f1, f2, lo, ln, lc⟩ BB LL (frF BB LL)) (by rw [hr]; rfl) ⟨rfl, rfl, rfl⟩ y w' h (by omega) (by omega) (by omega)
  have h39 := fun (w' : World) => Parts_ok ⟨po, PP.length, pc, bo, BB.length, bc, f0, f1, f2, lo, ln, lc⟩ w' (by dsimp only; omega) (by dsimp only; omega)
  dsimp only at h39
  have h47 := fun (b a : Int) (w' : World) (hb : Below w.heap.size w w') (hp : partOk PP.length BB.length b a) => Limit_ok ⟨po, PP.length, pc, bo, BB.length, bc, f0, f1, f2, lo, ln, lc⟩ PP BB LL b a w' (hX.below hb) hr hp
  have h46 := fun (b a : Int) (hp : partOk PP.length BB.length b a) (w' : World) (h : nrH PP BB LL y w') (hP : Rd 1 iF (.slice ya.1 A.length ya.2) A w') => borne_ok PP BB LL f0 f1 f2 ⟨po, PP.length, pc, bo, BB.length, bc, f0, f1, f2, lo, ln, lc⟩ hr ⟨rfl, rfl, rfl⟩ A hA y ya.1 ya.2 b a hp w' h hP
  have hLl := prL_len PP.length BB.length
  have hLok := fun (k : Nat) (q : Int × Int) (h : (prL PP.length BB.length)[k]? = some q) => prL_ok h
  obtain ⟨hx1, hq1, hp1, hd1⟩ := ov_some hW1
  have hkn := knB_all hq1
  have hpu1 := endL_pul (r := ⟨po, PP.length, pc, bo, BB.length, bc, f0, f1, f2, lo, ln, lc⟩) hr x1' true
  have h46a := fun (o : Option Addr) (c : Nat) (w' : World) (h : nrH PP BB LL y w') (hP : Rd 1 iF (.slice o (endL ⟨po, PP.length, pc, bo, BB.length, bc, f0, f1, f2, lo, ln, lc⟩ x1' true LL).length c) (endL ⟨po, PP.length, pc, bo, BB.length, bc, f0, f1, f2, lo, ln, lc⟩ x1' true LL) w') => borne_ok PP BB LL f0 f1 f2 ⟨po, PP.length, pc, bo, BB.length, bc, f0, f1, f2, lo, ln, lc⟩ hr ⟨rfl, rfl, rfl⟩ _ hpu1 y o c b1 a1 hp1 w' h hP
  have h47a := fun (w' : World) (hb : Below w.heap.size w w') => h47 b1 a1 w' hb hp1
  rw [hW1, hr] at h41
  dsimp only [Wk.b, Wk.a, Wk.pl, Wk.e] at h41
  clear hpu1
  generalize endL ⟨po, PP.length, pc, bo, BB.length, bc, f0, f1, f2, lo, ln, lc⟩ x1' true LL = P1 at *
  generalize dotR (rowP (frF BB LL) b1 a1) P1 P1.length = val1 at *
  generalize limP PP BB b1 a1 * 216000 = lim1 at *
  have hno2 := fun (k : Nat) (q : Int × Int) (h : (prL PP.length BB.length)[k]? = some q) => sl_none hW2 hA h
  rw [hW2, hr] at h42
  dsimp only [Wk.b, Wk.a, Wk.pl, Wk.e] at h42
  generalize prL PP.length BB.length = L at *
  obtain ⟨ya1, ya2⟩ := ya
  dsimp only at h46
  repeat'
   conv => whnf
   first
    | refine zA ?_ | refine zB ?_ | refine zC ?_ | refine zD ?_ | refine zE ?_ | refine zF ?_ | refine zG ?_ | refine zH ?_ | refine zI ?_ | refine splT ?_ | refine splF ?_ | refine splNot ?_
    | ((first | refine splIn (fun hc => ?_) (fun hc => ?_) | refine splD (fun hc => ?_) (fun hc => ?_) | refine splE (fun hc => ?_) (fun hc => ?_) | refine splNE (fun hc => ?_) (fun hc => ?_)) <;> first | (exfalso; omega) | (exfalso; dsimp only at hc; omega) | skip)
    | ((with_reducible show CallEv _ _ 41 _ _ _ _ _); refine callF [] (fun z : Option Addr × Nat => .tuple #[.agg #[iv b1, iv a1], sV P1.length z, iv 0]) (fun z => Rd 1 iF (sV P1.length z) P1) (fun β w' _ hbw => h41 w' hbw.1.2) ?_; intro z; obtain ⟨z1, z2⟩ := z; dsimp only)
    | ((with_reducible show CallEv _ _ 42 _ _ _ _ _); refine callF [] (fun z : Option Addr × Nat => .tuple #[.agg #[iv 0, iv 0], sV 0 z, iv 7]) (fun z => Rd 1 iF (sV 0 z) ([] : List Int)) (fun β w' _ hbw => h42 w' hbw.1.1.2) ?_; intro z; obtain ⟨x1, x2⟩ := z; dsimp only)
    | ((with_reducible show CallEv _ _ 39 _ _ _ _ _); refine callF [] (fun y : YS L => sV L.length y.1) (fun y => Rd 2 gF (sV L.length y.1) L) (fun β w' _ hbw => h39 w') ?_; intro u; obtain ⟨⟨u1, u2⟩, hu0⟩ := u; dsimp only at hu0 ⊢)
  all_goals first | (exfalso; omega) | skip
  have hL1 : 1 ≤ L.length := by omega
  have hL36 : L.length ≤ 36 := by omega
  obtain ⟨ua, rfl⟩ := hu0.resolve_left fun hc => by rw [hc] at hL1; simp at hL1
  refine loopN 13 (fun k : Nat => [(2, .ptr 0 0), (5, .ptr 9 0), (6, .v (sV A.length (ya1, ya2))), (8, .v (sV P1.length (z1, z2))), (9, .v (iv 0)), (11, .v (sV 0 (x1, x2))), (12, .v (iv 7)), (13, .v (sV L.length (some ua, u2))), (10, .ptr 11 0), (14, .ptr 12 0), (15, .v (.bool (knB L b1 a1 k))), (16, .v (iv k))]) (fun _ => [(0, .cells [.v (.slice po PP.length pc), .v (.slice bo BB.length bc), .v (iv f0), .v (iv f1), .v (iv f2), .v (.slice lo ln lc)] 48), (9, .cells [.v (sV PP.length y.1), .v (sV BB.length y.2.1), .v (iv f0), .v (iv f1), .v (iv f2), .v (sV LL.length y.2.2)] 58), (11, .cells [.v (iv 0), .v (iv 0)] 95), (12, .cells [.v (iv b1), .v (iv a1)] 91)])
    (fun k => k ≤ L.length) (fun k => L.length - k) 0 (Nat.zero_le _) ⟨rfl, rfl, rfl, rfl, rfl, rfl, rfl, rfl, rfl, rfl, rfl, rfl, trivial⟩ ⟨rfl, rfl, rfl, rfl, trivial⟩ (fun _ _ => ⟨rfl, rfl⟩) ?_
  intro k hk
  rcases Nat.lt_or_ge k L.length with hkl | hkl
  · obtain ⟨q, hq⟩ : ∃ q, L[k]? = some q := ⟨_, List.getElem?_eq_getElem hkl⟩
    have hks := knB_succ (b := b1) (a := a1) hq
    obtain ⟨q1, q2⟩ := q
    dsimp only at hks
    cases hk1 : knB L b1 a1 k <;> rw [hk1] at hks
    all_goals skip
    repeat'
     conv => whnf
     first
      | refine zA ?_ | refine zB ?_ | refine zC ?_ | refine zD ?_ | refine zE ?_ | refine zF ?_ | refine zG ?_ | refine zH ?_ | refine zI ?_ | refine splT ?_ | refine splF ?_ | refine splNot ?_
      | ((first | refine splIn (fun hc => ?_) (fun hc => ?_) | refine splD (fun hc => ?_) (fun hc => ?_) | refine splE (fun hc => ?_) (fun hc => ?_) | refine splNE (fun hc => ?_) (fun hc => ?_)) <;> first | (exfalso; omega) | (exfalso; dsimp only at hc; omega) | skip)
      | refine Exists.intro (α := List Value) [iv q1, iv q2] ⟨⟨rfl, fun w' hw' => rd_ati hw'.2 hq⟩, ?_⟩
      | refine eqlE91 rfl ?_
    all_goals first | (exfalso; omega) | exact ⟨k + 1, by omega, by omega, Ent.weak rfl ⟨rfl, rfl, rfl, rfl, rfl, rfl, rfl, rfl, rfl, rfl, by rw [hks]; rfl, rfl, trivial⟩ ⟨rfl, rfl, rfl, rfl, trivial⟩ fun _ h => h⟩
  obtain rfl : k = L.length := by omega
  rw [hkn]
  repeat'
   conv => whnf
   first
    | refine zA ?_ | refine zB ?_ | refine zC ?_ | refine zD ?_ | refine zE ?_ | refine zF ?_ | refine zG ?_ | refine zH ?_ | refine zI ?_ | refine splT ?_ | refine splF ?_ | refine splNot ?_
    | ((first | refine splIn (fun hc => ?_) (fun hc => ?_) | refine splD (fun hc => ?_) (fun hc => ?_) | refine splE (fun hc => ?_) (fun hc => ?_) | refine splNE (fun hc => ?_) (fun hc => ?_)) <;> first | (exfalso; omega) | (exfalso; dsimp only at hc; omega) | skip)
    | ((with_reducible show CallEv _ _ 46 [_, .v (sV _ (z1, z2)), _] _ _ _ _); refine callE (k := 46) (fun β w' hbw => h46a _ _ w' hbw.1.1.1.1.2 hbw.1.1.2) ?_)
    | ((with_reducible show CallEv _ _ 47 _ _ _ _ _); refine callE (k := 47) (fun β w' hbw => h47a _ hbw.1.1.1.1.1) ?_)
  all_goals first | (exfalso; omega) | skip
  refine loopN 13 (fun k : Nat => [(2, .ptr 0 0), (5, .ptr 9 0), (6, .v (sV A.length (ya1, ya2))), (9, .v (iv 0)), (12, .v (iv 7)), (13, .v (sV L.length (some ua, u2))), (21, .v (iv k))]) (fun _ => [(0, .cells [.v (.slice po PP.length pc), .v (.slice bo BB.length bc), .v (iv f0), .v (iv f1), .v (iv f2), .v (.slice lo ln lc)] 48), (9, .cells [.v (sV PP.length y.1), .v (sV BB.length y.2.1), .v (iv f0), .v (iv f1), .v (iv f2), .v (sV LL.length y.2.2)] 58)])
    (fun k => k ≤ L.length) (fun k => L.length - k) 0 (Nat.zero_le _) ⟨rfl, rfl, rfl, rfl, rfl, rfl, rfl, trivial⟩ ⟨rfl, rfl, trivial⟩ (fun _ _ => ⟨rfl, rfl⟩) ?_
  clear hk hkl
  intro k hk
  rcases Nat.lt_or_ge k L.length with hkl | hkl
  · obtain ⟨q, hq⟩ : ∃ q, L[k]? = some q := ⟨_, List.getElem?_eq_getElem hkl⟩
    have hpq := hLok k q hq
    have h46 := fun (w' : World) h1 h2 => h46 q.1 q.2 hpq w' h1 h2
    have h47 := fun (w' : World) hb => h47 q.1 q.2 w' hb hpq
    have hno2 := hno2 k q hq
    obtain ⟨q1, q2⟩ := q
    dsimp only at *
    generalize dotR (rowP (frF BB LL) q1 q2) A A.length = val at *
    generalize limP PP BB q1 q2 * 216000 = lim at *
    repeat'
     conv => whnf
     first
      | refine zA ?_ | refine zB ?_ | refine zC ?_ | refine zD ?_ | refine zE ?_ | refine zF ?_ | refine zG ?_ | refine zH ?_ | refine zI ?_ | refine splT ?_ | refine splF ?_ | refine splNot ?_
      | ((first | refine splIn (fun hc => ?_) (fun hc => ?_) | refine splD (fun hc => ?_) (fun hc => ?_) | refine splE (fun hc => ?_) (fun hc => ?_) | refine splNE (fun hc => ?_) (fun hc => ?_)) <;> first | (exfalso; omega) | (exfalso; dsimp only at hc; omega) | skip)
      | refine Exists.intro (α := List Value) [iv q1, iv q2] ⟨⟨rfl, fun w' hw' => rd_ati hw'.2 hq⟩, ?_⟩
      | refine Exists.intro (α := List Value) [iv q1] ⟨⟨rfl, fun w' hw' => rd_fld hw'.2 hq 0 (iv q1) rfl⟩, ?_⟩
      | ((with_reducible show CallEv _ _ 46 _ _ _ _ _); refine callE (k := 46) (fun β w' hbw => h46 _ hbw.1.1.1.1.2 hbw.1.1.1.2) ?_)
      | ((with_reducible show CallEv _ _ 47 _ _ _ _ _); refine callE (k := 47) (fun β w' hbw => h47 _ hbw.1.1.1.1.1) ?_)
    all_goals first | (exfalso; omega) | exact ⟨k + 1, by omega, by omega, Ent.weak rfl ⟨rfl, rfl, rfl, rfl, rfl, rfl, rfl, trivial⟩ ⟨rfl, rfl, trivial⟩ fun _ h => h⟩
  · skip
    repeat'
     conv => whnf
     first
      | refine zA ?_ | refine zB ?_ | refine zC ?_ | refine zD ?_ | refine zE ?_ | refine zF ?_ | refine zG ?_ | refine zH ?_ | refine zI ?_ | refine splT ?_ | refine splF ?_ | refine splNot ?_
      | ((first | refine splIn (fun hc => ?_) (fun hc => ?_) | refine splD (fun hc => ?_) (fun hc => ?_) | refine splE (fun hc => ?_) (fun hc => ?_) | refine splNE (fun hc => ?_) (fun hc => ?_)) <;> first | (exfalso; omega) | (exfalso; dsimp only at hc; omega) | skip)
      | ((with_reducible show CallEv _ _ 16 _ _ _ _ _); refine callE (k := 16) (fun β w' hbw => awake_ok _) ?_)
    all_goals first | (exfalso; omega) | exact ⟨fun β => rfl, fun w' h => h.1.1.1.1.1⟩

set_option maxHeartbeats 16000000 in
set_option maxRecDepth 100000 in
theorem Wit01 (po bo lo : Option Addr) (pn pc bn bc ln lc : Nat) (f0 f1 f2 : Int) (PP : List Int) (BB : List Bm) (LL : List Ld) (A : List Int) (w : World) (hX : RigX ⟨po, pn, pc, bo, bn, bc, f0, f1, f2, lo, ln, lc⟩ PP BB LL w) (hr : rigOk f0 f1 f2 PP BB LL = true) (hA : pulB ⟨po, pn, pc, bo, bn, bc, f0, f1, f2, lo, ln, lc⟩ LL A = true)
    (hW1 : ovO ⟨po, pn, pc, bo, bn, bc, f0, f1, f2, lo, ln, lc⟩ PP BB LL (frF BB LL) = none)
    (b2 a2 : Int) (x2' : Row) (hW2 : slO ⟨po, pn, pc, bo, bn, bc, f0, f1, f2, lo, ln, lc⟩ BB LL (frF BB LL) = some (b2, a2, x2'))
    (y : (Option Addr × Nat) × (Option Addr × Nat) × (Option Addr × Nat)) (ya : Option Addr × Nat) : VC Try.prog (rest 3 body11) ⟨194, [(2, .ptr 0 0), (5, .ptr 9 0), (6, .v (sV A.length ya))], [(0, .cells [.v (.slice po pn pc), .v (.slice bo bn bc), .v (iv f0), .v (iv f1), .v (iv f2), .v (.slice lo ln lc)] 48), (9, .cells [.v (sV PP.length y.1), .v (sV BB.length y.2.1), .v (iv f0), .v (iv f1), .v (iv f2), .v (sV LL.length y.2.2)] 58)], 10, fun w2 => (Below w.heap.size w w2 ∧ nrH PP BB LL y w2) ∧ Rd 1 iF (sV A.length ya) A w2, z0⟩ (endΦ env Try.f11 fun s σ => (∀ β, s.c β = .bool true) ∧ ∀ w', σ.h w' → Below w.heap.size w w') := by
  refine VC.of env mixed ?_
  have hri := rigOk_iff.1 hr
  have hpn := hX.pn
  have hbn := hX.bn
  dsimp only at hpn hbn
  subst hpn
  subst hbn
  have hm12 : BB.length ≤ 12 := hri.2.2.1
  have hl20 := hri.2.2.2.2.1
  have hlA := pulB_len hA
  have h41 := fun (w' : World) (h : nrH PP BB LL y w') => Over_nr PP BB LL f0 f1 f2 ⟨po, PP.length, pc, bo, BB.length, bc, f0, f1, f2, lo, ln, lc⟩ (ovO ⟨po, PP.length, pc, bo, BB.length, bc, f0, f1, f2, lo, ln, lc⟩ PP BB LL (frF BB LL)) (by rw [hr]; rfl) ⟨rfl, rfl, rfl⟩ y w' h (by omega) (by omega) (by omega)
  have h42 := fun (w' : World) (h : nrH PP BB LL y w') => Slack_nr PP BB LL f0 f1 f2 ⟨po, PP.length, pc, bo, BB.length, bc, f0, f1, f2, lo, ln, lc⟩ (slO ⟨po, PP.length, pc, bo, BB.length, bc, f0, f1, f2, lo, ln, lc⟩ BB LL (frF BB LL)) (by rw [hr]; rfl) ⟨rfl, rfl, rfl⟩ y w' h (by omega) (by omega) (by omega)
  have h39 := fun (w' : World) => Parts_ok ⟨po, PP.length, pc, bo, BB.length, bc, f0, f1, f2, lo, ln, lc⟩ w' (by dsimp only; omega) (by dsimp only; omega)
  dsimp only at h39
  have h47 := fun (b a : Int) (w' : World) (hb : Below w.heap.size w w') (hp : partOk PP.length BB.length b a) => Limit_ok ⟨po, PP.length, pc, bo, BB.length, bc, f0, f1, f2, lo, ln, lc⟩ PP BB LL b a w' (hX.below hb) hr hp
  have h46 := fun (b a : Int) (hp : partOk PP.length BB.length b a) (w' : World) (h : nrH PP BB LL y w') (hP : Rd 1 iF (.slice ya.1 A.length ya.2) A w') => borne_ok PP BB LL f0 f1 f2 ⟨po, PP.length, pc, bo, BB.length, bc, f0, f1, f2, lo, ln, lc⟩ hr ⟨rfl, rfl, rfl⟩ A hA y ya.1 ya.2 b a hp w' h hP
  have hLl := prL_len PP.length BB.length
  have hLok := fun (k : Nat) (q : Int × Int) (h : (prL PP.length BB.length)[k]? = some q) => prL_ok h
  have hno1 := fun (k : Nat) (q : Int × Int) (h : (prL PP.length BB.length)[k]? = some q) => ov_none hW1 hA h
  rw [hW1, hr] at h41
  dsimp only [Wk.b, Wk.a, Wk.pl, Wk.e] at h41
  obtain ⟨hx2, hq2, hd2⟩ := sl_some (PP := PP) hW2
  have hpu2 := endL_pul (r := ⟨po, PP.length, pc, bo, BB.length, bc, f0, f1, f2, lo, ln, lc⟩) hr x2' false
  have h46b := fun (o : Option Addr) (c : Nat) (w' : World) (h : nrH PP BB LL y w') (hP : Rd 1 iF (.slice o (endL ⟨po, PP.length, pc, bo, BB.length, bc, f0, f1, f2, lo, ln, lc⟩ x2' false LL).length c) (endL ⟨po, PP.length, pc, bo, BB.length, bc, f0, f1, f2, lo, ln, lc⟩ x2' false LL) w') => borne_ok PP BB LL f0 f1 f2 ⟨po, PP.length, pc, bo, BB.length, bc, f0, f1, f2, lo, ln, lc⟩ hr ⟨rfl, rfl, rfl⟩ _ hpu2 y o c b2 a2 (.inr hq2) w' h hP
  rw [hW2, hr] at h42
  dsimp only [Wk.b, Wk.a, Wk.pl, Wk.e] at h42
  clear hpu2
  generalize endL ⟨po, PP.length, pc, bo, BB.length, bc, f0, f1, f2, lo, ln, lc⟩ x2' false LL = P2 at *
  generalize dotR (rowP (frF BB LL) b2 a2) P2 P2.length = val2 at *
  generalize prL PP.length BB.length = L at *
  obtain ⟨ya1, ya2⟩ := ya
  dsimp only at h46
  repeat'
   conv => whnf
   first
    | refine zA ?_ | refine zB ?_ | refine zC ?_ | refine zD ?_ | refine zE ?_ | refine zF ?_ | refine zG ?_ | refine zH ?_ | refine zI ?_ | refine splT ?_ | refine splF ?_ | refine splNot ?_
    | ((first | refine splIn (fun hc => ?_) (fun hc => ?_) | refine splD (fun hc => ?_) (fun hc => ?_) | refine splE (fun hc => ?_) (fun hc => ?_) | refine splNE (fun hc => ?_) (fun hc => ?_)) <;> first | (exfalso; omega) | (exfalso; dsimp only at hc; omega) | skip)
    | ((with_reducible show CallEv _ _ 41 _ _ _ _ _); refine callF [] (fun z : Option Addr × Nat => .tuple #[.agg #[iv 0, iv 0], sV 0 z, iv 7]) (fun z => Rd 1 iF (sV 0 z) ([] : List Int)) (fun β w' _ hbw => h41 w' hbw.1.2) ?_; intro z; obtain ⟨z1, z2⟩ := z; dsimp only)
    | ((with_reducible show CallEv _ _ 42 _ _ _ _ _); refine callF [] (fun z : Option Addr × Nat => .tuple #[.agg #[iv b2, iv a2], sV P2.length z, iv 0]) (fun z => Rd 1 iF (sV P2.length z) P2) (fun β w' _ hbw => h42 w' hbw.1.1.2) ?_; intro z; obtain ⟨x1, x2⟩ := z; dsimp only)
    | ((with_reducible show CallEv _ _ 39 _ _ _ _ _); refine callF [] (fun y : YS L => sV L.length y.1) (fun y => Rd 2 gF (sV L.length y.1) L) (fun β w' _ hbw => h39 w') ?_; intro u; obtain ⟨⟨u1, u2⟩, hu0⟩ := u; dsimp only at hu0 ⊢)
  all_goals first | (exfalso; omega) | skip
  have hL1 : 1 ≤ L.length := by omega
  have hL36 : L.length ≤ 36 := by omega
  obtain ⟨ua, rfl⟩ := hu0.resolve_left fun hc => by rw [hc] at hL1; simp at hL1
  repeat'
   conv => whnf
   first
    | refine zA ?_ | refine zB ?_ | refine zC ?_ | refine zD ?_ | refine zE ?_ | refine zF ?_ | refine zG ?_ | refine zH ?_ | refine zI ?_ | refine splT ?_ | refine splF ?_ | refine splNot ?_
    | ((first | refine splIn (fun hc => ?_) (fun hc => ?_) | refine splD (fun hc => ?_) (fun hc => ?_) | refine splE (fun hc => ?_) (fun hc => ?_) | refine splNE (fun hc => ?_) (fun hc => ?_)) <;> first | (exfalso; omega) | (exfalso; dsimp only at hc; omega) | skip)
    | ((with_reducible show CallEv _ _ 46 [_, .v (sV _ (x1, x2)), _] _ _ _ _); refine callE (k := 46) (fun β w' hbw => h46b _ _ w' hbw.1.1.1.1.2 hbw.1.2) ?_)
  all_goals first | (exfalso; omega) | skip
  refine loopN 12 (fun k : Nat => [(2, .ptr 0 0), (5, .ptr 9 0), (6, .v (sV A.length (ya1, ya2))), (9, .v (iv 7)), (12, .v (iv 0)), (13, .v (sV L.length (some ua, u2))), (21, .v (iv k))]) (fun _ => [(0, .cells [.v (.slice po PP.length pc), .v (.slice bo BB.length bc), .v (iv f0), .v (iv f1), .v (iv f2), .v (.slice lo ln lc)] 48), (9, .cells [.v (sV PP.length y.1), .v (sV BB.length y.2.1), .v (iv f0), .v (iv f1), .v (iv f2), .v (sV LL.length y.2.2)] 58)])
    (fun k => k ≤ L.length) (fun k => L.length - k) 0 (Nat.zero_le _) ⟨rfl, rfl, rfl, rfl, rfl, rfl, rfl, trivial⟩ ⟨rfl, rfl, trivial⟩ (fun _ _ => ⟨rfl, rfl⟩) ?_
  intro k hk
  rcases Nat.lt_or_ge k L.length with hkl | hkl
  · obtain ⟨q, hq⟩ : ∃ q, L[k]? = some q := ⟨_, List.getElem?_eq_getElem hkl⟩
    have hpq := hLok k q hq
    have h46 := fun (w' : World) h1 h2 => h46 q.1 q.2 hpq w' h1 h2
    have h47 := fun (w' : World) hb => h47 q.1 q.2 w' hb hpq
    have hno1 := hno1 k q hq
    obtain ⟨q1, q2⟩ := q
    dsimp only at *
    generalize dotR (rowP (frF BB LL) q1 q2) A A.length = val at *
    generalize limP PP BB q1 q2 * 216000 = lim at *
    repeat'
     conv => whnf
     first
      | refine zA ?_ | refine zB ?_ | refine zC ?_ | refine zD ?_ | refine zE ?_ | refine zF ?_ | refine zG ?_ | refine zH ?_ | refine zI ?_ | refine splT ?_ | refine splF ?_ | refine splNot ?_
      | ((first | refine splIn (fun hc => ?_) (fun hc => ?_) | refine splD (fun hc => ?_) (fun hc => ?_) | refine splE (fun hc => ?_) (fun hc => ?_) | refine splNE (fun hc => ?_) (fun hc => ?_)) <;> first | (exfalso; omega) | (exfalso; dsimp only at hc; omega) | skip)
      | refine Exists.intro (α := List Value) [iv q1, iv q2] ⟨⟨rfl, fun w' hw' => rd_ati hw'.2 hq⟩, ?_⟩
      | refine Exists.intro (α := List Value) [iv q1] ⟨⟨rfl, fun w' hw' => rd_fld hw'.2 hq 0 (iv q1) rfl⟩, ?_⟩
      | ((with_reducible show CallEv _ _ 46 _ _ _ _ _); refine callE (k := 46) (fun β w' hbw => h46 _ hbw.1.1.1.1.2 hbw.1.1.1.2) ?_)
      | ((with_reducible show CallEv _ _ 47 _ _ _ _ _); refine callE (k := 47) (fun β w' hbw => h47 _ hbw.1.1.1.1.1) ?_)
    all_goals first | (exfalso; omega) | exact ⟨k + 1, by omega, by omega, Ent.weak rfl ⟨rfl, rfl, rfl, rfl, rfl, rfl, rfl, trivial⟩ ⟨rfl, rfl, trivial⟩ fun _ h => h⟩
  · skip
    repeat'
     conv => whnf
     first
      | refine zA ?_ | refine zB ?_ | refine zC ?_ | refine zD ?_ | refine zE ?_ | refine zF ?_ | refine zG ?_ | refine zH ?_ | refine zI ?_ | refine splT ?_ | refine splF ?_ | refine splNot ?_
      | ((first | refine splIn (fun hc => ?_) (fun hc => ?_) | refine splD (fun hc => ?_) (fun hc => ?_) | refine splE (fun hc => ?_) (fun hc => ?_) | refine splNE (fun hc => ?_) (fun hc => ?_)) <;> first | (exfalso; omega) | (exfalso; dsimp only at hc; omega) | skip)
      | ((with_reducible show CallEv _ _ 16 _ _ _ _ _); refine callE (k := 16) (fun β w' hbw => awake_ok _) ?_)
    all_goals first | (exfalso; omega) | exact ⟨fun β => rfl, fun w' h => h.1.1.1.1.1⟩

set_option maxHeartbeats 16000000 in
set_option maxRecDepth 100000 in
theorem Wit00 (po bo lo : Option Addr) (pn pc bn bc ln lc : Nat) (f0 f1 f2 : Int) (PP : List Int) (BB : List Bm) (LL : List Ld) (A : List Int) (w : World) (hX : RigX ⟨po, pn, pc, bo, bn, bc, f0, f1, f2, lo, ln, lc⟩ PP BB LL w) (hr : rigOk f0 f1 f2 PP BB LL = true) (hA : pulB ⟨po, pn, pc, bo, bn, bc, f0, f1, f2, lo, ln, lc⟩ LL A = true)
    (hW1 : ovO ⟨po, pn, pc, bo, bn, bc, f0, f1, f2, lo, ln, lc⟩ PP BB LL (frF BB LL) = none)
    (hW2 : slO ⟨po, pn, pc, bo, bn, bc, f0, f1, f2, lo, ln, lc⟩ BB LL (frF BB LL) = none)
    (y : (Option Addr × Nat) × (Option Addr × Nat) × (Option Addr × Nat)) (ya : Option Addr × Nat) : VC Try.prog (rest 3 body11) ⟨194, [(2, .ptr 0 0), (5, .ptr 9 0), (6, .v (sV A.length ya))], [(0, .cells [.v (.slice po pn pc), .v (.slice bo bn bc), .v (iv f0), .v (iv f1), .v (iv f2), .v (.slice lo ln lc)] 48), (9, .cells [.v (sV PP.length y.1), .v (sV BB.length y.2.1), .v (iv f0), .v (iv f1), .v (iv f2), .v (sV LL.length y.2.2)] 58)], 10, fun w2 => (Below w.heap.size w w2 ∧ nrH PP BB LL y w2) ∧ Rd 1 iF (sV A.length ya) A w2, z0⟩ (endΦ env Try.f11 fun s σ => (∀ β, s.c β = .bool true) ∧ ∀ w', σ.h w' → Below w.heap.size w w') := by
  refine VC.of env mixed ?_
  have hri := rigOk_iff.1 hr
  have hpn := hX.pn
  have hbn := hX.bn
  dsimp only at hpn hbn
  subst hpn
  subst hbn
  have hm12 : BB.length ≤ 12 := hri.2.2.1
  have hl20 := hri.2.2.2.2.1
  have hlA := pulB_len hA
  have h41 := fun (w' : World) (h : nrH PP BB LL y w') => Over_nr PP BB LL f0 f1 f2 ⟨po, PP.length, pc, bo, BB.length, bc, f0, f1, f2, lo, ln, lc⟩ (ovO ⟨po, PP.length, pc, bo, BB.length, bc, f0, f1, f2, lo, ln, lc⟩ PP BB LL (frF BB LL)) (by rw [hr]; rfl) ⟨rfl, rfl, rfl⟩ y w' h (by omega) (by omega) (by omega)
  have h42 := fun (w' : World) (h : nrH PP BB LL y w') => Slack_nr PP BB LL f0 f1 f2 ⟨po, PP.length, pc, bo, BB.length, bc, f0, f1, f2, lo, ln, lc⟩ (slO ⟨po, PP.length, pc, bo, BB.length, bc, f0, f1, f2, lo, ln, lc⟩ BB LL (frF BB LL)) (by rw [hr]; rfl) ⟨rfl, rfl, rfl⟩ y w' h (by omega) (by omega) (by omega)
  have h39 := fun (w' : World) => Parts_ok ⟨po, PP.length, pc, bo, BB.length, bc, f0, f1, f2, lo, ln, lc⟩ w' (by dsimp only; omega) (by dsimp only; omega)
  dsimp only at h39
  have h47 := fun (b a : Int) (w' : World) (hb : Below w.heap.size w w') (hp : partOk PP.length BB.length b a) => Limit_ok ⟨po, PP.length, pc, bo, BB.length, bc, f0, f1, f2, lo, ln, lc⟩ PP BB LL b a w' (hX.below hb) hr hp
  have h46 := fun (b a : Int) (hp : partOk PP.length BB.length b a) (w' : World) (h : nrH PP BB LL y w') (hP : Rd 1 iF (.slice ya.1 A.length ya.2) A w') => borne_ok PP BB LL f0 f1 f2 ⟨po, PP.length, pc, bo, BB.length, bc, f0, f1, f2, lo, ln, lc⟩ hr ⟨rfl, rfl, rfl⟩ A hA y ya.1 ya.2 b a hp w' h hP
  have hLl := prL_len PP.length BB.length
  have hLok := fun (k : Nat) (q : Int × Int) (h : (prL PP.length BB.length)[k]? = some q) => prL_ok h
  have hno1 := fun (k : Nat) (q : Int × Int) (h : (prL PP.length BB.length)[k]? = some q) => ov_none hW1 hA h
  rw [hW1, hr] at h41
  dsimp only [Wk.b, Wk.a, Wk.pl, Wk.e] at h41
  have hno2 := fun (k : Nat) (q : Int × Int) (h : (prL PP.length BB.length)[k]? = some q) => sl_none hW2 hA h
  rw [hW2, hr] at h42
  dsimp only [Wk.b, Wk.a, Wk.pl, Wk.e] at h42
  generalize prL PP.length BB.length = L at *
  obtain ⟨ya1, ya2⟩ := ya
  dsimp only at h46
  repeat'
   conv => whnf
   first
    | refine zA ?_ | refine zB ?_ | refine zC ?_ | refine zD ?_ | refine zE ?_ | refine zF ?_ | refine zG ?_ | refine zH ?_ | refine zI ?_ | refine splT ?_ | refine splF ?_ | refine splNot ?_
    | ((first | refine splIn (fun hc => ?_) (fun hc => ?_) | refine splD (fun hc => ?_) (fun hc => ?_) | refine splE (fun hc => ?_) (fun hc => ?_) | refine splNE (fun hc => ?_) (fun hc => ?_)) <;> first | (exfalso; omega) | (exfalso; dsimp only at hc; omega) | skip)
    | ((with_reducible show CallEv _ _ 41 _ _ _ _ _); refine callF [] (fun z : Option Addr × Nat => .tuple #[.agg #[iv 0, iv 0], sV 0 z, iv 7]) (fun z => Rd 1 iF (sV 0 z) ([] : List Int)) (fun β w' _ hbw => h41 w' hbw.1.2) ?_; intro z; obtain ⟨z1, z2⟩ := z; dsimp only)
    | ((with_reducible show CallEv _ _ 42 _ _ _ _ _); refine callF [] (fun z : Option Addr × Nat => .tuple #[.agg #[iv 0, iv 0], sV 0 z, iv 7]) (fun z => Rd 1 iF (sV 0 z) ([] : List Int)) (fun β w' _ hbw => h42 w' hbw.1.1.2) ?_; intro z; obtain ⟨x1, x2⟩ := z; dsimp only)
    | ((with_reducible show CallEv _ _ 39 _ _ _ _ _); refine callF [] (fun y : YS L => sV L.length y.1) (fun y => Rd 2 gF (sV L.length y.1) L) (fun β w' _ hbw => h39 w') ?_; intro u; obtain ⟨⟨u1, u2⟩, hu0⟩ := u; dsimp only at hu0 ⊢)
  all_goals first | (exfalso; omega) | skip
  have hL1 : 1 ≤ L.length := by omega
  have hL36 : L.length ≤ 36 := by omega
  obtain ⟨ua, rfl⟩ := hu0.resolve_left fun hc => by rw [hc] at hL1; simp at hL1
  refine loopN 12 (fun k : Nat => [(2, .ptr 0 0), (5, .ptr 9 0), (6, .v (sV A.length (ya1, ya2))), (9, .v (iv 7)), (12, .v (iv 7)), (13, .v (sV L.length (some ua, u2))), (21, .v (iv k))]) (fun _ => [(0, .cells [.v (.slice po PP.length pc), .v (.slice bo BB.length bc), .v (iv f0), .v (iv f1), .v (iv f2), .v (.slice lo ln lc)] 48), (9, .cells [.v (sV PP.length y.1), .v (sV BB.length y.2.1), .v (iv f0), .v (iv f1), .v (iv f2), .v (sV LL.length y.2.2)] 58)])
    (fun k => k ≤ L.length) (fun k => L.length - k) 0 (Nat.zero_le _) ⟨rfl, rfl, rfl, rfl, rfl, rfl, rfl, trivial⟩ ⟨rfl, rfl, trivial⟩ (fun _ _ => ⟨rfl, rfl⟩) ?_
  intro k hk
  rcases Nat.lt_or_ge k L.length with hkl | hkl
  · obtain ⟨q, hq⟩ : ∃ q, L[k]? = some q := ⟨_, List.getElem?_eq_getElem hkl⟩
    have hpq := hLok k q hq
    have h46 := fun (w' : World) h1 h2 => h46 q.1 q.2 hpq w' h1 h2
    have h47 := fun (w' : World) hb => h47 q.1 q.2 w' hb hpq
    have hno1 := hno1 k q hq
    have hno2 := hno2 k q hq
    obtain ⟨q1, q2⟩ := q
    dsimp only at *
    generalize dotR (rowP (frF BB LL) q1 q2) A A.length = val at *
    generalize limP PP BB q1 q2 * 216000 = lim at *
    repeat'
     conv => whnf
     first
      | refine zA ?_ | refine zB ?_ | refine zC ?_ | refine zD ?_ | refine zE ?_ | refine zF ?_ | refine zG ?_ | refine zH ?_ | refine zI ?_ | refine splT ?_ | refine splF ?_ | refine splNot ?_
      | ((first | refine splIn (fun hc => ?_) (fun hc => ?_) | refine splD (fun hc => ?_) (fun hc => ?_) | refine splE (fun hc => ?_) (fun hc => ?_) | refine splNE (fun hc => ?_) (fun hc => ?_)) <;> first | (exfalso; omega) | (exfalso; dsimp only at hc; omega) | skip)
      | refine Exists.intro (α := List Value) [iv q1, iv q2] ⟨⟨rfl, fun w' hw' => rd_ati hw'.2 hq⟩, ?_⟩
      | refine Exists.intro (α := List Value) [iv q1] ⟨⟨rfl, fun w' hw' => rd_fld hw'.2 hq 0 (iv q1) rfl⟩, ?_⟩
      | ((with_reducible show CallEv _ _ 46 _ _ _ _ _); refine callE (k := 46) (fun β w' hbw => h46 _ hbw.1.1.1.1.2 hbw.1.1.1.2) ?_)
      | ((with_reducible show CallEv _ _ 47 _ _ _ _ _); refine callE (k := 47) (fun β w' hbw => h47 _ hbw.1.1.1.1.1) ?_)
    all_goals first | (exfalso; omega) | exact ⟨k + 1, by omega, by omega, Ent.weak rfl ⟨rfl, rfl, rfl, rfl, rfl, rfl, rfl, trivial⟩ ⟨rfl, rfl, trivial⟩ fun _ h => h⟩
  · skip
    repeat'
     conv => whnf
     first
      | refine zA ?_ | refine zB ?_ | refine zC ?_ | refine zD ?_ | refine zE ?_ | refine zF ?_ | refine zG ?_ | refine zH ?_ | refine zI ?_ | refine splT ?_ | refine splF ?_ | refine splNot ?_
      | ((first | refine splIn (fun hc => ?_) (fun hc => ?_) | refine splD (fun hc => ?_) (fun hc => ?_) | refine splE (fun hc => ?_) (fun hc => ?_) | refine splNE (fun hc => ?_) (fun hc => ?_)) <;> first | (exfalso; omega) | (exfalso; dsimp only at hc; omega) | skip)
      | ((with_reducible show CallEv _ _ 16 _ _ _ _ _); refine callE (k := 16) (fun β w' hbw => awake_ok _) ?_)
    all_goals first | (exfalso; omega) | exact ⟨fun β => rfl, fun w' h => h.1.1.1.1.1⟩

set_option maxHeartbeats 16000000 in
set_option maxRecDepth 100000 in
theorem RiggingWitness_ok (r : Rig) (PP : List Int) (BB : List Bm) (LL : List Ld) (U : List Int) (uo : Option Addr) (uc : Nat) (w : World) (hX : RigX r PP BB LL w) (hU : Rd 1 uF (.slice uo U.length uc) U w) (hul : U.length ≤ 9223372036854775807) (hu : ∀ n ∈ U, 0 ≤ n ∧ n ≤ 4294967295) :
    Calls Try.prog 11 #[r.v, .slice uo U.length uc] w fun e w' => e = .returned (.bool true) ∧ Below w.heap.size w w' := by
  have h27 := fun (w' : World) (hb : Below w.heap.size w w') => Right_ok r PP BB LL w' (hX.below hb)
  cases hr : rigOk r.f0 r.f1 r.f2 PP BB LL with
  | false =>
    rw [hr] at h27
    obtain ⟨po, pn, pc, bo, bn, bc, f0, f1, f2, lo, ln, lc⟩ := r
    refine calls_val env mixed Try.func11 has11 Try.ntmps11 [.agg #[.slice po pn pc, .slice bo bn bc, iv f0, iv f1, iv f2, .slice lo ln lc], .slice uo U.length uc] (by simp) ?_
    repeat'
     conv => whnf
     first
      | refine zA ?_ | refine zB ?_ | refine zC ?_ | refine zD ?_ | refine zE ?_ | refine zF ?_ | refine zG ?_ | refine zH ?_ | refine zI ?_ | refine splT ?_ | refine splF ?_ | refine splNot ?_
      | ((first | refine splIn (fun hc => ?_) (fun hc => ?_) | refine splD (fun hc => ?_) (fun hc => ?_) | refine splE (fun hc => ?_) (fun hc => ?_) | refine splNE (fun hc => ?_) (fun hc => ?_)) <;> first | (exfalso; omega) | (exfalso; dsimp only at hc; omega) | skip)
      | ((with_reducible show CallEv _ _ 27 _ _ _ _ _); refine callE (k := 27) (fun β w' hbw => h27 _ hbw) ?_)
      | ((with_reducible show CallEv _ _ 16 _ _ _ _ _); refine callE (k := 16) (fun β w' hbw => awake_ok _) ?_)
    all_goals first | (exfalso; omega) | exact ⟨fun β => rfl, fun w' h => h⟩
  | true =>
  rw [hr] at h27
  have hri := rigOk_iff.1 hr
  have hm12 := hri.2.2.1
  have hl20 := hri.2.2.2.2.1
  have hP1 := hri.1.1
  have hin := hX.rin (by omega) (by omega) (by omega)
  have h28 := fun (w' : World) (hb : Below w.heap.size w w') (hne : LL ≠ []) => drawn_own r PP BB LL U uo uc w' (hin.below hb) hr (hU.below hb) hul hu hne
  have hA := drL_pul hr U
  have hlA := drL_len r LL U
  generalize drL r LL U = A at *
  have hfin : ∀ (y : (Option Addr × Nat) × (Option Addr × Nat) × (Option Addr × Nat)) (ya : Option Addr × Nat), VC Try.prog (rest 3 body11) ⟨194, [(2, .ptr 0 0), (5, .ptr 9 0), (6, .v (sV A.length ya))], [(0, .cells [.v (.slice r.po r.pn r.pc), .v (.slice r.bo r.bn r.bc), .v (iv r.f0), .v (iv r.f1), .v (iv r.f2), .v (.slice r.lo r.ln r.lc)] 48), (9, .cells [.v (sV PP.length y.1), .v (sV BB.length y.2.1), .v (iv r.f0), .v (iv r.f1), .v (iv r.f2), .v (sV LL.length y.2.2)] 58)], 10, fun w2 => (Below w.heap.size w w2 ∧ nrH PP BB LL y w2) ∧ Rd 1 iF (sV A.length ya) A w2, z0⟩ (endΦ env Try.f11 fun s σ => (∀ β, s.c β = .bool true) ∧ ∀ w', σ.h w' → Below w.heap.size w w') := fun y ya => by
    obtain ⟨po, pn, pc, bo, bn, bc, f0, f1, f2, lo, ln, lc⟩ := r
    cases hW1 : ovO ⟨po, pn, pc, bo, bn, bc, f0, f1, f2, lo, ln, lc⟩ PP BB LL (frF BB LL) with
    | none =>
      cases hW2 : slO ⟨po, pn, pc, bo, bn, bc, f0, f1, f2, lo, ln, lc⟩ BB LL (frF BB LL) with
      | none => exact Wit00 po bo lo pn pc bn bc ln lc f0 f1 f2 PP BB LL A w hX hr hA hW1 hW2 y ya
      | some q => obtain ⟨b2, a2, x2⟩ := q; exact Wit01 po bo lo pn pc bn bc ln lc f0 f1 f2 PP BB LL A w hX hr hA hW1 b2 a2 x2 hW2 y ya
    | some p =>
      obtain ⟨b1, a1, x1⟩ := p
      cases hW2 : slO ⟨po, pn, pc, bo, bn, bc, f0, f1, f2, lo, ln, lc⟩ BB LL (frF BB LL) with
      | none => exact Wit10 po bo lo pn pc bn bc ln lc f0 f1 f2 PP BB LL A w hX hr hA b1 a1 x1 hW1 hW2 y ya
      | some q => obtain ⟨b2, a2, x2⟩ := q; exact Wit11 po bo lo pn pc bn bc ln lc f0 f1 f2 PP BB LL A w hX hr hA b1 a1 x1 hW1 b2 a2 x2 hW2 y ya
  have hln0 : LL.length = 0 → r.ln = 0 := fun h => by rw [hX.ln, h]
  obtain ⟨po, pn, pc, bo, bn, bc, f0, f1, f2, lo, ln, lc⟩ := r
  dsimp only at hfin hln0
  refine calls_valV env mixed Try.func11 has11 Try.ntmps11 [.agg #[.slice po pn pc, .slice bo bn bc, iv f0, iv f1, iv f2, .slice lo ln lc], .slice uo U.length uc] (by simp) ?_
  refine VC.cutD env mixed 3 10 (fun x : ((Option Addr × Nat) × (Option Addr × Nat) × (Option Addr × Nat)) × (Option Addr × Nat) => [(2, .ptr 0 0), (5, .ptr 9 0), (6, .v (sV A.length x.2))])
    (fun x => [(0, .cells [.v (.slice po pn pc), .v (.slice bo bn bc), .v (iv f0), .v (iv f1), .v (iv f2), .v (.slice lo ln lc)] 48), (9, .cells [.v (sV PP.length x.1.1), .v (sV BB.length x.1.2.1), .v (iv f0), .v (iv f1), .v (iv f2), .v (sV LL.length x.1.2.2)] 58)]) (fun x w2 => (Below w.heap.size w w2 ∧ nrH PP BB LL x.1 w2) ∧ Rd 1 iF (sV A.length x.2) A w2) (fun _ => True) (fun _ _ => ⟨rfl, rfl⟩) ?_ (fun x _ => hfin x.1 x.2)
  cases PP with
  | nil => simp at hP1
  | cons p0 PP =>
    cases BB with
    | nil =>
      cases LL with
      | nil =>
        skip
        repeat'
         conv => whnf
         first
          | refine zA ?_ | refine zB ?_ | refine zC ?_ | refine zD ?_ | refine zE ?_ | refine zF ?_ | refine zG ?_ | refine zH ?_ | refine zI ?_ | refine splT ?_ | refine splF ?_ | refine splNot ?_
          | ((first | refine splIn (fun hc => ?_) (fun hc => ?_) | refine splD (fun hc => ?_) (fun hc => ?_) | refine splE (fun hc => ?_) (fun hc => ?_) | refine splNE (fun hc => ?_) (fun hc => ?_)) <;> first | (exfalso; omega) | (exfalso; dsimp only at hc; omega) | skip)
          | ((with_reducible show CallEv _ _ 27 _ _ _ _ _); refine callE (k := 27) (fun β w' hbw => h27 _ hbw) ?_)
          | ((with_reducible show CallEv _ _ 30 _ _ _ _ _); refine callR [1, 2, 3, 4, 5, 6] [] (rigM 1 (p0 :: PP) ([] : List Bm) ([] : List Ld)) (rigS 1 (PP.length + 1) ([] : List Bm) ([] : List Ld) f0 f1 f2) rfl (fun i b hi => by rcases rigM_mem hi with ⟨rfl, _⟩ | ⟨rfl, _⟩ | ⟨rfl, _⟩ <;> decide) (fun β w' _ hbw => (Rig_own ⟨po, pn, pc, bo, bn, bc, f0, f1, f2, lo, ln, lc⟩ p0 PP ([] : List Bm) ([] : List Ld) w' (hin.below hbw) (by omega) (by omega)).mono fun e w2 h => rig_mv h) ?_)
          | ((with_reducible show CallEv _ _ 28 _ _ _ _ _); refine callR [7, 8] [] [] (.v (.slice none 0 0)) rfl (fun i b hi => by cases hi) (fun β w' _ hbw => (drawn_nil ⟨po, pn, pc, bo, bn, bc, f0, f1, f2, lo, ln, lc⟩ uo U.length uc w' (hln0 rfl)).mono fun e w2 h => ⟨β, h.1, fun _ _ => rfl, h.2, fun i b hi => (by cases hi), fun i b j b' hi => (by cases hi)⟩) ?_)
        all_goals first | (exfalso; omega) | skip
        refine ⟨rfl, Dis.mk [1] (fun i hi => by simp at hi; subst hi <;> exact ⟨_, rfl, rfl⟩) fun β w1 hb hw => ⟨(((some ⟨β 1, 0, none⟩, β 2), (none, 0), (none, 0)), (none, 0)), trivial, ⟨⟨_, rfl, rfl⟩, ⟨_, rfl, rfl⟩, ⟨_, rfl, by rw [hlA]; rfl⟩, trivial⟩, ⟨⟨rfl, _, _, _, rfl, rfl, rfl⟩, ⟨rfl, _, _, _, rfl, rfl, rfl⟩, trivial⟩, fun w2 h2 hb2 => ⟨⟨h2, Rd.of_owns (sz := 1) (f := iF) (fun _ => rfl) rfl rfl (hb2 1 (by simp) _ rfl), .inl ⟨rfl, rfl⟩, .inl ⟨rfl, rfl⟩⟩, (by have hA0 : A = [] := List.eq_nil_of_length_eq_zero hlA; subst hA0; exact .inl ⟨rfl, rfl⟩)⟩⟩⟩
      | cons l0 LL =>
        skip
        repeat'
         conv => whnf
         first
          | refine zA ?_ | refine zB ?_ | refine zC ?_ | refine zD ?_ | refine zE ?_ | refine zF ?_ | refine zG ?_ | refine zH ?_ | refine zI ?_ | refine splT ?_ | refine splF ?_ | refine splNot ?_
          | ((first | refine splIn (fun hc => ?_) (fun hc => ?_) | refine splD (fun hc => ?_) (fun hc => ?_) | refine splE (fun hc => ?_) (fun hc => ?_) | refine splNE (fun hc => ?_) (fun hc => ?_)) <;> first | (exfalso; omega) | (exfalso; dsimp only at hc; omega) | skip)
          | ((with_reducible show CallEv _ _ 27 _ _ _ _ _); refine callE (k := 27) (fun β w' hbw => h27 _ hbw) ?_)
          | ((with_reducible show CallEv _ _ 30 _ _ _ _ _); refine callR [1, 2, 3, 4, 5, 6] [] (rigM 1 (p0 :: PP) ([] : List Bm) (l0 :: LL)) (rigS 1 (PP.length + 1) ([] : List Bm) (l0 :: LL) f0 f1 f2) rfl (fun i b hi => by rcases rigM_mem hi with ⟨rfl, _⟩ | ⟨rfl, _⟩ | ⟨rfl, _⟩ <;> decide) (fun β w' _ hbw => (Rig_own ⟨po, pn, pc, bo, bn, bc, f0, f1, f2, lo, ln, lc⟩ p0 PP ([] : List Bm) (l0 :: LL) w' (hin.below hbw) (by omega) (by omega)).mono fun e w2 h => rig_mv h) ?_)
          | ((with_reducible show CallEv _ _ 28 _ _ _ _ _); refine callO 7 [] (.os 7 8 (l0 :: LL).length) (l0 :: LL).length 1 (A.flatMap iF) 3 rfl (fun β w' _ hbw => (h28 w' hbw (by simp)).mono fun _ _ ⟨b, c, h1, h2, h3, h4⟩ => ⟨b, c, h1, h2, h3, h4⟩) ?_)
        all_goals first | (exfalso; omega) | skip
        refine ⟨rfl, Dis.mk [1, 5, 7] (fun i hi => by simp at hi; rcases hi with rfl | rfl | rfl <;> exact ⟨_, rfl, rfl⟩) fun β w1 hb hw => ⟨(((some ⟨β 1, 0, none⟩, β 2), (none, 0), (some ⟨β 5, 0, none⟩, β 6)), (some ⟨β 7, 0, none⟩, β 8)), trivial, ⟨⟨_, rfl, rfl⟩, ⟨_, rfl, rfl⟩, ⟨_, rfl, by rw [hlA]; rfl⟩, trivial⟩, ⟨⟨rfl, _, _, _, rfl, rfl, rfl⟩, ⟨rfl, _, _, _, rfl, rfl, rfl⟩, trivial⟩, fun w2 h2 hb2 => ⟨⟨h2, Rd.of_owns (sz := 1) (f := iF) (fun _ => rfl) rfl rfl (hb2 1 (by simp) _ rfl), .inl ⟨rfl, rfl⟩, Rd.of_owns (sz := 5) (f := Ld.cs) (fun _ => rfl) rfl rfl (hb2 5 (by simp) _ rfl)⟩, Rd.of_owns (sz := 1) (f := iF) (fun _ => rfl) rfl rfl (by rw [hlA]; exact hb2 7 (by simp) _ rfl)⟩⟩⟩
    | cons b0 BB =>
      cases LL with
      | nil =>
        skip
        repeat'
         conv => whnf
         first
          | refine zA ?_ | refine zB ?_ | refine zC ?_ | refine zD ?_ | refine zE ?_ | refine zF ?_ | refine zG ?_ | refine zH ?_ | refine zI ?_ | refine splT ?_ | refine splF ?_ | refine splNot ?_
          | ((first | refine splIn (fun hc => ?_) (fun hc => ?_) | refine splD (fun hc => ?_) (fun hc => ?_) | refine splE (fun hc => ?_) (fun hc => ?_) | refine splNE (fun hc => ?_) (fun hc => ?_)) <;> first | (exfalso; omega) | (exfalso; dsimp only at hc; omega) | skip)
          | ((with_reducible show CallEv _ _ 27 _ _ _ _ _); refine callE (k := 27) (fun β w' hbw => h27 _ hbw) ?_)
          | ((with_reducible show CallEv _ _ 30 _ _ _ _ _); refine callR [1, 2, 3, 4, 5, 6] [] (rigM 1 (p0 :: PP) (b0 :: BB) ([] : List Ld)) (rigS 1 (PP.length + 1) (b0 :: BB) ([] : List Ld) f0 f1 f2) rfl (fun i b hi => by rcases rigM_mem hi with ⟨rfl, _⟩ | ⟨rfl, _⟩ | ⟨rfl, _⟩ <;> decide) (fun β w' _ hbw => (Rig_own ⟨po, pn, pc, bo, bn, bc, f0, f1, f2, lo, ln, lc⟩ p0 PP (b0 :: BB) ([] : List Ld) w' (hin.below hbw) (by omega) (by omega)).mono fun e w2 h => rig_mv h) ?_)
          | ((with_reducible show CallEv _ _ 28 _ _ _ _ _); refine callR [7, 8] [] [] (.v (.slice none 0 0)) rfl (fun i b hi => by cases hi) (fun β w' _ hbw => (drawn_nil ⟨po, pn, pc, bo, bn, bc, f0, f1, f2, lo, ln, lc⟩ uo U.length uc w' (hln0 rfl)).mono fun e w2 h => ⟨β, h.1, fun _ _ => rfl, h.2, fun i b hi => (by cases hi), fun i b j b' hi => (by cases hi)⟩) ?_)
        all_goals first | (exfalso; omega) | skip
        refine ⟨rfl, Dis.mk [1, 3] (fun i hi => by simp at hi; rcases hi with rfl | rfl <;> exact ⟨_, rfl, rfl⟩) fun β w1 hb hw => ⟨(((some ⟨β 1, 0, none⟩, β 2), (some ⟨β 3, 0, none⟩, β 4), (none, 0)), (none, 0)), trivial, ⟨⟨_, rfl, rfl⟩, ⟨_, rfl, rfl⟩, ⟨_, rfl, by rw [hlA]; rfl⟩, trivial⟩, ⟨⟨rfl, _, _, _, rfl, rfl, rfl⟩, ⟨rfl, _, _, _, rfl, rfl, rfl⟩, trivial⟩, fun w2 h2 hb2 => ⟨⟨h2, Rd.of_owns (sz := 1) (f := iF) (fun _ => rfl) rfl rfl (hb2 1 (by simp) _ rfl), Rd.of_owns (sz := 8) (f := Bm.cs) (fun _ => rfl) rfl rfl (hb2 3 (by simp) _ rfl), .inl ⟨rfl, rfl⟩⟩, (by have hA0 : A = [] := List.eq_nil_of_length_eq_zero hlA; subst hA0; exact .inl ⟨rfl, rfl⟩)⟩⟩⟩
      | cons l0 LL =>
        skip
        repeat'
         conv => whnf
         first
          | refine zA ?_ | refine zB ?_ | refine zC ?_ | refine zD ?_ | refine zE ?_ | refine zF ?_ | refine zG ?_ | refine zH ?_ | refine zI ?_ | refine splT ?_ | refine splF ?_ | refine splNot ?_
          | ((first | refine splIn (fun hc => ?_) (fun hc => ?_) | refine splD (fun hc => ?_) (fun hc => ?_) | refine splE (fun hc => ?_) (fun hc => ?_) | refine splNE (fun hc => ?_) (fun hc => ?_)) <;> first | (exfalso; omega) | (exfalso; dsimp only at hc; omega) | skip)
          | ((with_reducible show CallEv _ _ 27 _ _ _ _ _); refine callE (k := 27) (fun β w' hbw => h27 _ hbw) ?_)
          | ((with_reducible show CallEv _ _ 30 _ _ _ _ _); refine callR [1, 2, 3, 4, 5, 6] [] (rigM 1 (p0 :: PP) (b0 :: BB) (l0 :: LL)) (rigS 1 (PP.length + 1) (b0 :: BB) (l0 :: LL) f0 f1 f2) rfl (fun i b hi => by rcases rigM_mem hi with ⟨rfl, _⟩ | ⟨rfl, _⟩ | ⟨rfl, _⟩ <;> decide) (fun β w' _ hbw => (Rig_own ⟨po, pn, pc, bo, bn, bc, f0, f1, f2, lo, ln, lc⟩ p0 PP (b0 :: BB) (l0 :: LL) w' (hin.below hbw) (by omega) (by omega)).mono fun e w2 h => rig_mv h) ?_)
          | ((with_reducible show CallEv _ _ 28 _ _ _ _ _); refine callO 7 [] (.os 7 8 (l0 :: LL).length) (l0 :: LL).length 1 (A.flatMap iF) 3 rfl (fun β w' _ hbw => (h28 w' hbw (by simp)).mono fun _ _ ⟨b, c, h1, h2, h3, h4⟩ => ⟨b, c, h1, h2, h3, h4⟩) ?_)
        all_goals first | (exfalso; omega) | skip
        refine ⟨rfl, Dis.mk [1, 3, 5, 7] (fun i hi => by simp at hi; rcases hi with rfl | rfl | rfl | rfl <;> exact ⟨_, rfl, rfl⟩) fun β w1 hb hw => ⟨(((some ⟨β 1, 0, none⟩, β 2), (some ⟨β 3, 0, none⟩, β 4), (some ⟨β 5, 0, none⟩, β 6)), (some ⟨β 7, 0, none⟩, β 8)), trivial, ⟨⟨_, rfl, rfl⟩, ⟨_, rfl, rfl⟩, ⟨_, rfl, by rw [hlA]; rfl⟩, trivial⟩, ⟨⟨rfl, _, _, _, rfl, rfl, rfl⟩, ⟨rfl, _, _, _, rfl, rfl, rfl⟩, trivial⟩, fun w2 h2 hb2 => ⟨⟨h2, Rd.of_owns (sz := 1) (f := iF) (fun _ => rfl) rfl rfl (hb2 1 (by simp) _ rfl), Rd.of_owns (sz := 8) (f := Bm.cs) (fun _ => rfl) rfl rfl (hb2 3 (by simp) _ rfl), Rd.of_owns (sz := 5) (f := Ld.cs) (fun _ => rfl) rfl rfl (hb2 5 (by simp) _ rfl)⟩, Rd.of_owns (sz := 1) (f := iF) (fun _ => rfl) rfl rfl (by rw [hlA]; exact hb2 7 (by simp) _ rfl)⟩⟩⟩
end Go.Proofs.Ytaciigegbgnadaa
