/- RiggingEncloses answers true. By JL.py. -/
import Derived.Test.YtaciigegbgnadaaJK
import Derived.Test.YtaciigegbgnadaaIU
namespace Go.Proofs.Ytaciigegbgnadaa
open Go Tx Go.RowKit
set_option linter.unusedSimpArgs false
set_option linter.unusedVariables false

theorem eqlEBq {a b q : Bool} {x y : Operand} {K : Value → Prop} (hq : (a == b) = q) (h : K (.bool q)) : ∃ v, (∀ _ : Nat → Nat, RunIs Try.prog (do eqGuard .eql 4 x y (.bool a) (.bool b); binOp .eql 4 (.bool a) (.bool b)) v) ∧ K v := by subst hq; exact eqlEB h
theorem rd_two {ad : Addr} {n c : Nat} {L : List ((Int × Int) × (Int × Int))} {w : World} (h : Rd 4 f4 (.slice (some ad) n c) L w) {k : Nat} {a b : Int × Int} (hk : L[k]? = some (a, b)) :
    (∀ j v, [iv a.1, iv a.2][j]? = some v → w.cell? (((ad.add ((k : Int).toNat * 4)).add ((0 : Int).toNat * 2)).add j) = some v) ∧ (∀ j v, [iv b.1, iv b.2][j]? = some v → w.cell? (((ad.add ((k : Int).toNat * 4)).add ((1 : Int).toNat * 2)).add j) = some v) := by
  refine ⟨fun j v h1 => ?_, fun j v h1 => ?_⟩ <;> rw [Addr.add_add]
  · match j, h1 with
    | 0, h1 => exact rd_ati h hk 0 _ h1
    | 1, h1 => exact rd_ati h hk 1 _ h1
  · match j, h1 with
    | 0, h1 => exact rd_ati h hk 2 _ h1
    | 1, h1 => exact rd_ati h hk 3 _ h1
theorem rd_quad {ad : Addr} {n c : Nat} {L : List ((Int × Int) × (Int × Int))} {w : World} (h : Rd 4 f4 (.slice (some ad) n c) L w) {k : Nat} {a b d e : Int} (hk : L[k]? = some ((a, b), (d, e))) :
    (∀ j v, [iv a][j]? = some v → w.cell? ((((ad.add ((k : Int).toNat * 4)).add ((0 : Int).toNat * 2)).add 0).add j) = some v) ∧ (∀ j v, [iv b][j]? = some v → w.cell? ((((ad.add ((k : Int).toNat * 4)).add ((0 : Int).toNat * 2)).add 1).add j) = some v) ∧
    (∀ j v, [iv d][j]? = some v → w.cell? ((((ad.add ((k : Int).toNat * 4)).add ((1 : Int).toNat * 2)).add 0).add j) = some v) ∧ (∀ j v, [iv e][j]? = some v → w.cell? ((((ad.add ((k : Int).toNat * 4)).add ((1 : Int).toNat * 2)).add 1).add j) = some v) := by
  refine ⟨fun j v h1 => ?_, fun j v h1 => ?_, fun j v h1 => ?_, fun j v h1 => ?_⟩ <;> rw [Addr.add_add, Addr.add_add] <;> (match j, h1 with | 0, h1 => ?_)
  · exact rd_ati h hk 0 _ h1
  · exact rd_ati h hk 1 _ h1
  · exact rd_ati h hk 2 _ h1
  · exact rd_ati h hk 3 _ h1

set_option maxHeartbeats 16000000 in
set_option maxRecDepth 100000 in
theorem EncD (po bo lo : Option Addr) (pn pc bn bc ln lc : Nat) (f0 f1 f2 : Int) (PP : List Int) (BB : List Bm) (LL : List Ld) (A : List Int) (w : World) (hX : RigX ⟨po, pn, pc, bo, bn, bc, f0, f1, f2, lo, ln, lc⟩ PP BB LL w) (hr : rigOk f0 f1 f2 PP BB LL = true) (hA : pulB ⟨po, pn, pc, bo, bn, bc, f0, f1, f2, lo, ln, lc⟩ LL A = true) (wh : Int) (y : (Option Addr × Nat) × (Option Addr × Nat) × (Option Addr × Nat)) (ya y1 y2 : Option Addr × Nat) (hy1 : ∃ ad, y1.1 = some ad) (hy2 : BB ≠ [] → ∃ ad, y2.1 = some ad) (RP : List (Int × Int)) (RH : List ((Int × Int) × (Int × Int))) (pb pa : Int) (hp : partOk PP.length BB.length pb pa)
    (hRP : pb = -1 → RP[pa.toNat]? = some (endD ⟨po, pn, pc, bo, bn, bc, f0, f1, f2, lo, ln, lc⟩ LL (rowP (frF BB LL) pb pa) false, endD ⟨po, pn, pc, bo, bn, bc, f0, f1, f2, lo, ln, lc⟩ LL (rowP (frF BB LL) pb pa) true))
    (hRH : pb ≠ -1 → ∃ q0 q1 : Int × Int, RH[pb.toNat]? = some (q0, q1) ∧ (if pa = 0 then q0 else q1) = (endD ⟨po, pn, pc, bo, bn, bc, f0, f1, f2, lo, ln, lc⟩ LL (rowP (frF BB LL) pb pa) false, endD ⟨po, pn, pc, bo, bn, bc, f0, f1, f2, lo, ln, lc⟩ LL (rowP (frF BB LL) pb pa) true)) :
    VC Try.prog (rest 5 (rest 2 (rest 3 body10))) ⟨271, [(3, .ptr 0 0), (7, .ptr 9 0), (8, .v (sV A.length ya)), (9, .v (sV PP.length y1)), (10, .v (sV BB.length y2)), (19, .ptr 16 0)], [(0, .cells [.v (.slice po pn pc), .v (.slice bo bn bc), .v (iv f0), .v (iv f1), .v (iv f2), .v (.slice lo ln lc)] 48), (9, .cells [.v (sV PP.length y.1), .v (sV BB.length y.2.1), .v (iv f0), .v (iv f1), .v (iv f2), .v (sV LL.length y.2.2)] 58), (16, .cells [.v (iv pb), .v (iv pa)] 91)], 17, fun w2 => Below w.heap.size w w2 ∧ nrH PP BB LL y w2 ∧ Rd 1 iF (sV A.length ya) A w2 ∧ Rd 2 gF (sV PP.length y1) RP w2 ∧ Rd 4 f4 (sV BB.length y2) RH w2, z0⟩ (endΦ env Try.f10 fun s σ => (∀ β, s.c β = .bool true) ∧ ∀ w', σ.h w' → Below w.heap.size w w') := by
  refine VC.of env mixed ?_
  have hri := rigOk_iff.1 hr
  have hpn := hX.pn
  have hbn := hX.bn
  have hln := hX.ln
  dsimp only at hpn hbn hln
  subst hpn
  subst hbn
  subst hln
  have hm12 : BB.length ≤ 12 := hri.2.2.1
  have hl20 := hri.2.2.2.2.1
  have hlA := pulB_len hA
  have h31o := fun (hne : A ≠ []) (w' : World) (hP : Rd 1 iF (.slice ya.1 A.length ya.2) A w') => list_own A ya.1 ya.2 w' hP hne (by omega)
  have h31n := fun (c : Nat) (w' : World) (hP : Rd 1 iF (.slice ya.1 0 c) [] w') => list_none ya.1 c w' hP
  have h46 := fun (D : List Int) (hD : pulB ⟨po, PP.length, pc, bo, BB.length, bc, f0, f1, f2, lo, LL.length, lc⟩ LL D = true) (o : Option Addr) (c : Nat) (w' : World) (h : nrH PP BB LL y w') (hP : Rd 1 iF (.slice o D.length c) D w') => borne_ok PP BB LL f0 f1 f2 ⟨po, PP.length, pc, bo, BB.length, bc, f0, f1, f2, lo, LL.length, lc⟩ hr ⟨rfl, rfl, rfl⟩ D hD y o c pb pa hp w' h hP
  have h45 := fun (k : Nat) (l : Ld) (hl : LL[k]? = some l) (w' : World) (hb : Below w.heap.size w w') => PullR_ok ⟨po, PP.length, pc, bo, BB.length, bc, f0, f1, f2, lo, LL.length, lc⟩ LL k l w' (hX.below hb).l rfl hl (by omega) (by have := List.all_eq_true.1 hri.2.2.2.2.2.2 l (List.mem_of_getElem? hl); rw [ldOk_iff] at this; omega) (by have := List.all_eq_true.1 hri.2.2.2.2.2.2 l (List.mem_of_getElem? hl); rw [ldOk_iff] at this; omega) (by have := fac_bd (r := ⟨po, PP.length, pc, bo, BB.length, bc, f0, f1, f2, lo, LL.length, lc⟩) hri.2.2.2.2.2.1 l.kind; omega)
  have hlh := fun (k : Nat) (l : Ld) (hl : LL[k]? = some l) => hi_lo (r := ⟨po, PP.length, pc, bo, BB.length, bc, f0, f1, f2, lo, LL.length, lc⟩) hr hl
  have hmv0 := fun most => MvI.init (x := rowP (frF BB LL) pb pa) (most := most) hA
  have hmvF := fun (most : Bool) (D : List Int) (h : MvI ⟨po, PP.length, pc, bo, BB.length, bc, f0, f1, f2, lo, LL.length, lc⟩ LL (rowP (frF BB LL) pb pa) most A.length D) => h.fin (by omega)
  generalize hx : rowP (frF BB LL) pb pa = x at *
  obtain ⟨ya1, ya2⟩ := ya
  obtain ⟨y11, y12⟩ := y1
  obtain ⟨y21, y22⟩ := y2
  obtain ⟨ap, hap⟩ := hy1
  dsimp only at hap hy2 h31o h31n
  subst hap
  repeat'
   conv => whnf
   first
    | refine zA ?_ | refine zB ?_ | refine zC ?_ | refine zD ?_ | refine zE ?_ | refine zF ?_ | refine zG ?_ | refine zH ?_ | refine zI ?_ | refine splT ?_ | refine splF ?_ | refine splNot ?_
    | ((first | refine splIn (fun hc => ?_) (fun hc => ?_) | refine splD (fun hc => ?_) (fun hc => ?_) | refine splE (fun hc => ?_) (fun hc => ?_) | refine splNE (fun hc => ?_) (fun hc => ?_)) <;> first | (exfalso; omega) | (exfalso; dsimp only at hc; omega) | skip)
  refine loopN 17 (fun m : Nat => [(3, .ptr 0 0), (7, .ptr 9 0), (8, .v (sV A.length (ya1, ya2))), (9, .v (sV PP.length (some ap, y12))), (10, .v (sV BB.length (y21, y22))), (19, .ptr 16 0), (20, .v (iv m))]) (fun _ => [(0, .cells [.v (.slice po PP.length pc), .v (.slice bo BB.length bc), .v (iv f0), .v (iv f1), .v (iv f2), .v (.slice lo LL.length lc)] 48), (9, .cells [.v (sV PP.length y.1), .v (sV BB.length y.2.1), .v (iv f0), .v (iv f1), .v (iv f2), .v (sV LL.length y.2.2)] 58), (16, .cells [.v (iv pb), .v (iv pa)] 91)])
    (fun m => m ≤ 2) (fun m => 2 - m) 0 (by omega) ⟨rfl, rfl, rfl, rfl, rfl, rfl, rfl, trivial⟩ ⟨rfl, rfl, rfl, trivial⟩ (fun _ _ => ⟨rfl, rfl⟩) ?_
  intro m hm
  obtain rfl | rfl | rfl : m = 0 ∨ m = 1 ∨ m = 2 := by omega
  · have hmv0 := hmv0 false
    have hmvF := hmvF false
    by_cases hne : A = []
    · subst hne
      have hfin := hmvF [] hmv0
      skip
      have h46e := h46 [] hA none 0
      rw [hfin] at h46e
      skip
      repeat'
       conv => whnf
       first
        | refine zA ?_ | refine zB ?_ | refine zC ?_ | refine zD ?_ | refine zE ?_ | refine zF ?_ | refine zG ?_ | refine zH ?_ | refine zI ?_ | refine splT ?_ | refine splF ?_ | refine splNot ?_
        | ((first | refine splIn (fun hc => ?_) (fun hc => ?_) | refine splD (fun hc => ?_) (fun hc => ?_) | refine splE (fun hc => ?_) (fun hc => ?_) | refine splNE (fun hc => ?_) (fun hc => ?_)) <;> first | (exfalso; omega) | (exfalso; dsimp only at hc; omega) | skip)
        | ((with_reducible show CallEv _ _ 31 _ _ _ _ _); refine callE (k := 31) (fun β w' hbw => h31n _ _ hbw.2.2.1) ?_)
      all_goals first | (exfalso; omega) | skip
      refine loopN 17 (fun k : Nat => [(3, .ptr 0 0), (7, .ptr 9 0), (8, .v (sV 0 (ya1, ya2))), (9, .v (sV PP.length (some ap, y12))), (10, .v (sV BB.length (y21, y22))), (19, .ptr 16 0), (20, .v (iv 0)), (21, .v (.slice none 0 0)), (22, .v (iv 0))]) (fun _ => [(0, .cells [.v (.slice po PP.length pc), .v (.slice bo BB.length bc), .v (iv f0), .v (iv f1), .v (iv f2), .v (.slice lo LL.length lc)] 48), (9, .cells [.v (sV PP.length y.1), .v (sV BB.length y.2.1), .v (iv f0), .v (iv f1), .v (iv f2), .v (sV LL.length y.2.2)] 58), (16, .cells [.v (iv pb), .v (iv pa)] 91)])
        (fun k => True) (fun _ => 0) 0 trivial ⟨rfl, rfl, rfl, rfl, rfl, rfl, rfl, rfl, rfl, trivial⟩ ⟨rfl, rfl, rfl, trivial⟩ (fun _ _ => ⟨rfl, rfl⟩) ?_
      intro k _
      rcases hp with ⟨rfl, h1, h2⟩ | ⟨h1, h2, h3, h4⟩
      · have hat := hRP rfl
        obtain ⟨j, rfl⟩ := Int.eq_ofNat_of_zero_le h1
        rw [Int.toNat_natCast] at hat
        clear hRH hRP hfin
        generalize endD ⟨po, PP.length, pc, bo, BB.length, bc, f0, f1, f2, lo, LL.length, lc⟩ LL x false = e0 at *
        generalize endD ⟨po, PP.length, pc, bo, BB.length, bc, f0, f1, f2, lo, LL.length, lc⟩ LL x true = e1 at *
        repeat'
         conv => whnf
         first
          | refine zA ?_ | refine zB ?_ | refine zC ?_ | refine zD ?_ | refine zE ?_ | refine zF ?_ | refine zG ?_ | refine zH ?_ | refine zI ?_ | refine splT ?_ | refine splF ?_ | refine splNot ?_
          | ((first | refine splIn (fun hc => ?_) (fun hc => ?_) | refine splD (fun hc => ?_) (fun hc => ?_) | refine splE (fun hc => ?_) (fun hc => ?_) | refine splNE (fun hc => ?_) (fun hc => ?_)) <;> first | (exfalso; omega) | (exfalso; dsimp only at hc; omega) | skip)
          | ((with_reducible show CallEv _ _ 46 _ _ _ _ _); refine callE (k := 46) (fun β w' hbw => h46e _ hbw.2.1 (.inl ⟨rfl, rfl⟩)) ?_)
          | refine Exists.intro (α := List Value) [iv e0, iv e1] ⟨⟨rfl, fun w' hw' => rd_ati hw'.2.2.2.1 hat⟩, ?_⟩
        all_goals first | (exfalso; omega) | exact ⟨1, by omega, by omega, Ent.weak rfl ⟨rfl, rfl, rfl, rfl, rfl, rfl, rfl, trivial⟩ ⟨rfl, rfl, rfl, trivial⟩ fun _ h => h⟩
      · obtain ⟨⟨a0, a1⟩, ⟨b0, b1⟩, hat, hq⟩ := hRH (by omega)
        obtain ⟨i, rfl⟩ := Int.eq_ofNat_of_zero_le h1
        rw [Int.toNat_natCast] at hat
        obtain ⟨ah, rfl⟩ := hy2 (by rintro rfl; simp at h2; omega)
        clear hRH hRP hfin
        generalize endD ⟨po, PP.length, pc, bo, BB.length, bc, f0, f1, f2, lo, LL.length, lc⟩ LL x false = e0 at *
        generalize endD ⟨po, PP.length, pc, bo, BB.length, bc, f0, f1, f2, lo, LL.length, lc⟩ LL x true = e1 at *
        obtain rfl | rfl : pa = 0 ∨ pa = 1 := by omega
        · rw [if_pos rfl, Prod.mk.injEq] at hq
          obtain ⟨rfl, rfl⟩ := hq
          have e0' := fun (w' : World) (hw' : Rd 4 f4 (sV BB.length (some ah, y22)) RH w') => rd_two hw' hat
          repeat'
           conv => whnf
           first
            | refine zA ?_ | refine zB ?_ | refine zC ?_ | refine zD ?_ | refine zE ?_ | refine zF ?_ | refine zG ?_ | refine zH ?_ | refine zI ?_ | refine splT ?_ | refine splF ?_ | refine splNot ?_
            | ((first | refine splIn (fun hc => ?_) (fun hc => ?_) | refine splD (fun hc => ?_) (fun hc => ?_) | refine splE (fun hc => ?_) (fun hc => ?_) | refine splNE (fun hc => ?_) (fun hc => ?_)) <;> first | (exfalso; omega) | (exfalso; dsimp only at hc; omega) | skip)
            | ((with_reducible show CallEv _ _ 46 _ _ _ _ _); refine callE (k := 46) (fun β w' hbw => h46e _ hbw.2.1 (.inl ⟨rfl, rfl⟩)) ?_)
            | refine idxP env rfl rfl rfl rfl (And.intro (by omega) (by omega)) ?_
            | refine Exists.intro (α := List Value) [iv a0, iv a1] ⟨⟨rfl, fun w' hw' => (e0' w' hw'.2.2.2.2).1⟩, ?_⟩
          all_goals first | (exfalso; omega) | exact ⟨1, by omega, by omega, Ent.weak rfl ⟨rfl, rfl, rfl, rfl, rfl, rfl, rfl, trivial⟩ ⟨rfl, rfl, rfl, trivial⟩ fun _ h => h⟩
        · rw [if_neg (by omega), Prod.mk.injEq] at hq
          obtain ⟨rfl, rfl⟩ := hq
          have e0' := fun (w' : World) (hw' : Rd 4 f4 (sV BB.length (some ah, y22)) RH w') => rd_two hw' hat
          repeat'
           conv => whnf
           first
            | refine zA ?_ | refine zB ?_ | refine zC ?_ | refine zD ?_ | refine zE ?_ | refine zF ?_ | refine zG ?_ | refine zH ?_ | refine zI ?_ | refine splT ?_ | refine splF ?_ | refine splNot ?_
            | ((first | refine splIn (fun hc => ?_) (fun hc => ?_) | refine splD (fun hc => ?_) (fun hc => ?_) | refine splE (fun hc => ?_) (fun hc => ?_) | refine splNE (fun hc => ?_) (fun hc => ?_)) <;> first | (exfalso; omega) | (exfalso; dsimp only at hc; omega) | skip)
            | ((with_reducible show CallEv _ _ 46 _ _ _ _ _); refine callE (k := 46) (fun β w' hbw => h46e _ hbw.2.1 (.inl ⟨rfl, rfl⟩)) ?_)
            | refine idxP env rfl rfl rfl rfl (And.intro (by omega) (by omega)) ?_
            | refine Exists.intro (α := List Value) [iv b0, iv b1] ⟨⟨rfl, fun w' hw' => (e0' w' hw'.2.2.2.2).2⟩, ?_⟩
          all_goals first | (exfalso; omega) | exact ⟨1, by omega, by omega, Ent.weak rfl ⟨rfl, rfl, rfl, rfl, rfl, rfl, rfl, trivial⟩ ⟨rfl, rfl, rfl, trivial⟩ fun _ h => h⟩
    · have h31 := h31o hne
      repeat'
       conv => whnf
       first
        | refine zA ?_ | refine zB ?_ | refine zC ?_ | refine zD ?_ | refine zE ?_ | refine zF ?_ | refine zG ?_ | refine zH ?_ | refine zI ?_ | refine splT ?_ | refine splF ?_ | refine splNot ?_
        | ((first | refine splIn (fun hc => ?_) (fun hc => ?_) | refine splD (fun hc => ?_) (fun hc => ?_) | refine splE (fun hc => ?_) (fun hc => ?_) | refine splNE (fun hc => ?_) (fun hc => ?_)) <;> first | (exfalso; omega) | (exfalso; dsimp only at hc; omega) | skip)
        | ((with_reducible show CallEv _ _ 31 _ _ _ _ _); refine callO 17 [] (.os 17 18 A.length) A.length 1 (A.flatMap iF) 3 rfl (fun β w' _ hbw => (h31 w' hbw.2.2.1).mono fun _ _ ⟨b, c, h1, h2, h3, h4⟩ => ⟨b, c, h1, h2, h3, h4⟩) ?_)
      all_goals first | (exfalso; omega) | skip
      refine loopN2 19 (fun (k : Nat) (D : List Int) => [(3, .ptr 0 0), (7, .ptr 9 0), (8, .v (sV A.length (ya1, ya2))), (9, .v (sV PP.length (some ap, y12))), (10, .v (sV BB.length (y21, y22))), (19, .ptr 16 0), (20, .v (iv 0)), (21, .os 17 18 A.length), (22, .v (iv k))]) (fun k D => [(0, .cells [.v (.slice po PP.length pc), .v (.slice bo BB.length bc), .v (iv f0), .v (iv f1), .v (iv f2), .v (.slice lo LL.length lc)] 48), (9, .cells [.v (sV PP.length y.1), .v (sV BB.length y.2.1), .v (iv f0), .v (iv f1), .v (iv f2), .v (sV LL.length y.2.2)] 58), (16, .cells [.v (iv pb), .v (iv pa)] 91), (17, .own 18 A.length 1 (D.flatMap iF) 3)])
        (fun k D => k ≤ A.length ∧ MvI ⟨po, PP.length, pc, bo, BB.length, bc, f0, f1, f2, lo, LL.length, lc⟩ LL x false k D) (fun k _ => A.length - k) 0 A ⟨Nat.zero_le _, hmv0⟩ ⟨rfl, rfl, rfl, rfl, rfl, rfl, rfl, rfl, rfl, trivial⟩ ⟨rfl, rfl, rfl, rfl, trivial⟩ (fun _ _ _ => ⟨rfl, rfl⟩) ?_
      intro k D ⟨hk, hI⟩
      rcases Nat.lt_or_ge k A.length with hkl | hkl
      · obtain ⟨l, hl⟩ : ∃ l, LL[k]? = some l := ⟨_, List.getElem?_eq_getElem (by omega)⟩
        have hlhk := hlh k l hl
        have h45 := fun (w' : World) hb => h45 k l hl w' hb
        have hkD : k < D.length := by rw [hI.len]; omega
        have hDA : A.length = D.length := by rw [hI.len]; omega
        have hlo := hI.lo hl hlhk
        have hhi := hI.hi hl hlhk
        have hp1 := pul_set hI.pul hl (v := l.lo) ⟨by omega, by omega⟩
        have hp2 := pul_set hI.pul hl (v := hiP ⟨po, PP.length, pc, bo, BB.length, bc, f0, f1, f2, lo, LL.length, lc⟩ l) ⟨by omega, by omega⟩
        have h46a := h46 _ hp1
        have h46b := h46 _ hp2
        rw [List.length_set, ← hDA] at h46a h46b
        rw [List.length_set, List.length_set, ← hDA] at hlo hhi
        clear h46 hmv0 hmvF h31 h31o h31n hp1 hp2
        generalize hiP ⟨po, PP.length, pc, bo, BB.length, bc, f0, f1, f2, lo, LL.length, lc⟩ l = hi at *
        generalize l.lo = lw at *
        cases hq : (decide (dotR x (D.set k lw) A.length > dotR x (D.set k hi) A.length) == ((0 : Int) == 1))
        all_goals skip
        repeat'
         conv => whnf
         first
          | refine zA ?_ | refine zB ?_ | refine zC ?_ | refine zD ?_ | refine zE ?_ | refine zF ?_ | refine zG ?_ | refine zH ?_ | refine zI ?_ | refine splT ?_ | refine splF ?_ | refine splNot ?_
          | ((first | refine splIn (fun hc => ?_) (fun hc => ?_) | refine splD (fun hc => ?_) (fun hc => ?_) | refine splE (fun hc => ?_) (fun hc => ?_) | refine splNE (fun hc => ?_) (fun hc => ?_)) <;> first | (exfalso; omega) | (exfalso; dsimp only at hc; omega) | skip)
          | ((with_reducible show CallEv _ _ 45 _ _ _ _ _); refine callE (k := 45) (fun β w' hbw => h45 _ hbw.1) ?_)
          | (refine And.intro (a := _ + _ ≤ List.length _) (stS' hkD _) ?_; rw [stE hkD])
          | (refine And.intro (a := _ + _ ≤ List.length _) (stS' (by rw [List.length_set]; exact hkD) _) ?_; rw [stE2 hkD])
          | ((with_reducible show CallEv _ _ 46 _ _ _ _ _); refine callM (k := 46) [17] (fun β w' hbk hbw => h46a _ _ w' hbw.2.1 (Rd.of_owns (sz := 1) (f := iF) (fun _ => rfl) rfl (by rw [List.length_set]; exact hDA) (hbk 17 (by simp) _ rfl))) ?_)
          | ((with_reducible show CallEv _ _ 46 _ _ _ _ _); refine callM (k := 46) [17] (fun β w' hbk hbw => h46b _ _ w' hbw.2.1 (Rd.of_owns (sz := 1) (f := iF) (fun _ => rfl) rfl (by rw [List.length_set]; exact hDA) (hbk 17 (by simp) _ rfl))) ?_)
          | refine eqlEBq hq ?_
        all_goals first
          | (exfalso; omega)
          | exact ⟨k + 1, _, ⟨by omega, hlo hq⟩, by omega, Ent.weak rfl ⟨rfl, rfl, rfl, rfl, rfl, rfl, rfl, rfl, rfl, trivial⟩ ⟨rfl, rfl, rfl, rfl, trivial⟩ fun _ h => h⟩
          | exact ⟨k + 1, _, ⟨by omega, hhi hq⟩, by omega, Ent.weak rfl ⟨rfl, rfl, rfl, rfl, rfl, rfl, rfl, rfl, rfl, trivial⟩ ⟨rfl, rfl, rfl, rfl, trivial⟩ fun _ h => h⟩
      · obtain rfl : k = A.length := by omega
        have hfin := hmvF D hI
        have h46e := h46 D hI.pul
        rw [hfin] at h46e
        have hDA : A.length = D.length := by rw [hI.len]; omega
        rw [← hDA] at h46e
        rcases hp with ⟨rfl, h1, h2⟩ | ⟨h1, h2, h3, h4⟩
        · have hat := hRP rfl
          obtain ⟨j, rfl⟩ := Int.eq_ofNat_of_zero_le h1
          rw [Int.toNat_natCast] at hat
          clear hRH hRP hfin
          generalize endD ⟨po, PP.length, pc, bo, BB.length, bc, f0, f1, f2, lo, LL.length, lc⟩ LL x false = e0 at *
          generalize endD ⟨po, PP.length, pc, bo, BB.length, bc, f0, f1, f2, lo, LL.length, lc⟩ LL x true = e1 at *
          repeat'
           conv => whnf
           first
            | refine zA ?_ | refine zB ?_ | refine zC ?_ | refine zD ?_ | refine zE ?_ | refine zF ?_ | refine zG ?_ | refine zH ?_ | refine zI ?_ | refine splT ?_ | refine splF ?_ | refine splNot ?_
            | ((first | refine splIn (fun hc => ?_) (fun hc => ?_) | refine splD (fun hc => ?_) (fun hc => ?_) | refine splE (fun hc => ?_) (fun hc => ?_) | refine splNE (fun hc => ?_) (fun hc => ?_)) <;> first | (exfalso; omega) | (exfalso; dsimp only at hc; omega) | skip)
            | ((with_reducible show CallEv _ _ 46 _ _ _ _ _); refine callM (k := 46) [17] (fun β w' hbk hbw => h46e _ _ w' hbw.2.1 (Rd.of_owns (sz := 1) (f := iF) (fun _ => rfl) rfl hDA (hbk 17 (by simp) _ rfl))) ?_)
            | refine Exists.intro (α := List Value) [iv e0, iv e1] ⟨⟨rfl, fun w' hw' => rd_ati hw'.2.2.2.1 hat⟩, ?_⟩
          all_goals first | (exfalso; omega) | exact ⟨1, by omega, by omega, Ent.weak rfl ⟨rfl, rfl, rfl, rfl, rfl, rfl, rfl, trivial⟩ ⟨rfl, rfl, rfl, trivial⟩ fun _ h => h⟩
        · obtain ⟨⟨a0, a1⟩, ⟨b0, b1⟩, hat, hq⟩ := hRH (by omega)
          obtain ⟨i, rfl⟩ := Int.eq_ofNat_of_zero_le h1
          rw [Int.toNat_natCast] at hat
          obtain ⟨ah, rfl⟩ := hy2 (by rintro rfl; simp at h2; omega)
          clear hRH hRP hfin
          generalize endD ⟨po, PP.length, pc, bo, BB.length, bc, f0, f1, f2, lo, LL.length, lc⟩ LL x false = e0 at *
          generalize endD ⟨po, PP.length, pc, bo, BB.length, bc, f0, f1, f2, lo, LL.length, lc⟩ LL x true = e1 at *
          obtain rfl | rfl : pa = 0 ∨ pa = 1 := by omega
          · rw [if_pos rfl, Prod.mk.injEq] at hq
            obtain ⟨rfl, rfl⟩ := hq
            have e0' := fun (w' : World) (hw' : Rd 4 f4 (sV BB.length (some ah, y22)) RH w') => rd_two hw' hat
            repeat'
             conv => whnf
             first
              | refine zA ?_ | refine zB ?_ | refine zC ?_ | refine zD ?_ | refine zE ?_ | refine zF ?_ | refine zG ?_ | refine zH ?_ | refine zI ?_ | refine splT ?_ | refine splF ?_ | refine splNot ?_
              | ((first | refine splIn (fun hc => ?_) (fun hc => ?_) | refine splD (fun hc => ?_) (fun hc => ?_) | refine splE (fun hc => ?_) (fun hc => ?_) | refine splNE (fun hc => ?_) (fun hc => ?_)) <;> first | (exfalso; omega) | (exfalso; dsimp only at hc; omega) | skip)
              | ((with_reducible show CallEv _ _ 46 _ _ _ _ _); refine callM (k := 46) [17] (fun β w' hbk hbw => h46e _ _ w' hbw.2.1 (Rd.of_owns (sz := 1) (f := iF) (fun _ => rfl) rfl hDA (hbk 17 (by simp) _ rfl))) ?_)
              | refine idxP env rfl rfl rfl rfl (And.intro (by omega) (by omega)) ?_
              | refine Exists.intro (α := List Value) [iv a0, iv a1] ⟨⟨rfl, fun w' hw' => (e0' w' hw'.2.2.2.2).1⟩, ?_⟩
            all_goals first | (exfalso; omega) | exact ⟨1, by omega, by omega, Ent.weak rfl ⟨rfl, rfl, rfl, rfl, rfl, rfl, rfl, trivial⟩ ⟨rfl, rfl, rfl, trivial⟩ fun _ h => h⟩
          · rw [if_neg (by omega), Prod.mk.injEq] at hq
            obtain ⟨rfl, rfl⟩ := hq
            have e0' := fun (w' : World) (hw' : Rd 4 f4 (sV BB.length (some ah, y22)) RH w') => rd_two hw' hat
            repeat'
             conv => whnf
             first
              | refine zA ?_ | refine zB ?_ | refine zC ?_ | refine zD ?_ | refine zE ?_ | refine zF ?_ | refine zG ?_ | refine zH ?_ | refine zI ?_ | refine splT ?_ | refine splF ?_ | refine splNot ?_
              | ((first | refine splIn (fun hc => ?_) (fun hc => ?_) | refine splD (fun hc => ?_) (fun hc => ?_) | refine splE (fun hc => ?_) (fun hc => ?_) | refine splNE (fun hc => ?_) (fun hc => ?_)) <;> first | (exfalso; omega) | (exfalso; dsimp only at hc; omega) | skip)
              | ((with_reducible show CallEv _ _ 46 _ _ _ _ _); refine callM (k := 46) [17] (fun β w' hbk hbw => h46e _ _ w' hbw.2.1 (Rd.of_owns (sz := 1) (f := iF) (fun _ => rfl) rfl hDA (hbk 17 (by simp) _ rfl))) ?_)
              | refine idxP env rfl rfl rfl rfl (And.intro (by omega) (by omega)) ?_
              | refine Exists.intro (α := List Value) [iv b0, iv b1] ⟨⟨rfl, fun w' hw' => (e0' w' hw'.2.2.2.2).2⟩, ?_⟩
            all_goals first | (exfalso; omega) | exact ⟨1, by omega, by omega, Ent.weak rfl ⟨rfl, rfl, rfl, rfl, rfl, rfl, rfl, trivial⟩ ⟨rfl, rfl, rfl, trivial⟩ fun _ h => h⟩
  · have hmv0 := hmv0 true
    have hmvF := hmvF true
    by_cases hne : A = []
    · subst hne
      have hfin := hmvF [] hmv0
      skip
      have h46e := h46 [] hA none 0
      rw [hfin] at h46e
      skip
      repeat'
       conv => whnf
       first
        | refine zA ?_ | refine zB ?_ | refine zC ?_ | refine zD ?_ | refine zE ?_ | refine zF ?_ | refine zG ?_ | refine zH ?_ | refine zI ?_ | refine splT ?_ | refine splF ?_ | refine splNot ?_
        | ((first | refine splIn (fun hc => ?_) (fun hc => ?_) | refine splD (fun hc => ?_) (fun hc => ?_) | refine splE (fun hc => ?_) (fun hc => ?_) | refine splNE (fun hc => ?_) (fun hc => ?_)) <;> first | (exfalso; omega) | (exfalso; dsimp only at hc; omega) | skip)
        | ((with_reducible show CallEv _ _ 31 _ _ _ _ _); refine callE (k := 31) (fun β w' hbw => h31n _ _ hbw.2.2.1) ?_)
      all_goals first | (exfalso; omega) | skip
      refine loopN 17 (fun k : Nat => [(3, .ptr 0 0), (7, .ptr 9 0), (8, .v (sV 0 (ya1, ya2))), (9, .v (sV PP.length (some ap, y12))), (10, .v (sV BB.length (y21, y22))), (19, .ptr 16 0), (20, .v (iv 1)), (21, .v (.slice none 0 0)), (22, .v (iv 0))]) (fun _ => [(0, .cells [.v (.slice po PP.length pc), .v (.slice bo BB.length bc), .v (iv f0), .v (iv f1), .v (iv f2), .v (.slice lo LL.length lc)] 48), (9, .cells [.v (sV PP.length y.1), .v (sV BB.length y.2.1), .v (iv f0), .v (iv f1), .v (iv f2), .v (sV LL.length y.2.2)] 58), (16, .cells [.v (iv pb), .v (iv pa)] 91)])
        (fun k => True) (fun _ => 0) 0 trivial ⟨rfl, rfl, rfl, rfl, rfl, rfl, rfl, rfl, rfl, trivial⟩ ⟨rfl, rfl, rfl, trivial⟩ (fun _ _ => ⟨rfl, rfl⟩) ?_
      intro k _
      rcases hp with ⟨rfl, h1, h2⟩ | ⟨h1, h2, h3, h4⟩
      · have hat := hRP rfl
        obtain ⟨j, rfl⟩ := Int.eq_ofNat_of_zero_le h1
        rw [Int.toNat_natCast] at hat
        clear hRH hRP hfin
        generalize endD ⟨po, PP.length, pc, bo, BB.length, bc, f0, f1, f2, lo, LL.length, lc⟩ LL x false = e0 at *
        generalize endD ⟨po, PP.length, pc, bo, BB.length, bc, f0, f1, f2, lo, LL.length, lc⟩ LL x true = e1 at *
        repeat'
         conv => whnf
         first
          | refine zA ?_ | refine zB ?_ | refine zC ?_ | refine zD ?_ | refine zE ?_ | refine zF ?_ | refine zG ?_ | refine zH ?_ | refine zI ?_ | refine splT ?_ | refine splF ?_ | refine splNot ?_
          | ((first | refine splIn (fun hc => ?_) (fun hc => ?_) | refine splD (fun hc => ?_) (fun hc => ?_) | refine splE (fun hc => ?_) (fun hc => ?_) | refine splNE (fun hc => ?_) (fun hc => ?_)) <;> first | (exfalso; omega) | (exfalso; dsimp only at hc; omega) | skip)
          | ((with_reducible show CallEv _ _ 46 _ _ _ _ _); refine callE (k := 46) (fun β w' hbw => h46e _ hbw.2.1 (.inl ⟨rfl, rfl⟩)) ?_)
          | refine Exists.intro (α := List Value) [iv e0, iv e1] ⟨⟨rfl, fun w' hw' => rd_ati hw'.2.2.2.1 hat⟩, ?_⟩
        all_goals first | (exfalso; omega) | exact ⟨2, by omega, by omega, Ent.weak rfl ⟨rfl, rfl, rfl, rfl, rfl, rfl, rfl, trivial⟩ ⟨rfl, rfl, rfl, trivial⟩ fun _ h => h⟩
      · obtain ⟨⟨a0, a1⟩, ⟨b0, b1⟩, hat, hq⟩ := hRH (by omega)
        obtain ⟨i, rfl⟩ := Int.eq_ofNat_of_zero_le h1
        rw [Int.toNat_natCast] at hat
        obtain ⟨ah, rfl⟩ := hy2 (by rintro rfl; simp at h2; omega)
        clear hRH hRP hfin
        generalize endD ⟨po, PP.length, pc, bo, BB.length, bc, f0, f1, f2, lo, LL.length, lc⟩ LL x false = e0 at *
        generalize endD ⟨po, PP.length, pc, bo, BB.length, bc, f0, f1, f2, lo, LL.length, lc⟩ LL x true = e1 at *
        obtain rfl | rfl : pa = 0 ∨ pa = 1 := by omega
        · rw [if_pos rfl, Prod.mk.injEq] at hq
          obtain ⟨rfl, rfl⟩ := hq
          have e0' := fun (w' : World) (hw' : Rd 4 f4 (sV BB.length (some ah, y22)) RH w') => rd_two hw' hat
          repeat'
           conv => whnf
           first
            | refine zA ?_ | refine zB ?_ | refine zC ?_ | refine zD ?_ | refine zE ?_ | refine zF ?_ | refine zG ?_ | refine zH ?_ | refine zI ?_ | refine splT ?_ | refine splF ?_ | refine splNot ?_
            | ((first | refine splIn (fun hc => ?_) (fun hc => ?_) | refine splD (fun hc => ?_) (fun hc => ?_) | refine splE (fun hc => ?_) (fun hc => ?_) | refine splNE (fun hc => ?_) (fun hc => ?_)) <;> first | (exfalso; omega) | (exfalso; dsimp only at hc; omega) | skip)
            | ((with_reducible show CallEv _ _ 46 _ _ _ _ _); refine callE (k := 46) (fun β w' hbw => h46e _ hbw.2.1 (.inl ⟨rfl, rfl⟩)) ?_)
            | refine idxP env rfl rfl rfl rfl (And.intro (by omega) (by omega)) ?_
            | refine Exists.intro (α := List Value) [iv a0, iv a1] ⟨⟨rfl, fun w' hw' => (e0' w' hw'.2.2.2.2).1⟩, ?_⟩
          all_goals first | (exfalso; omega) | exact ⟨2, by omega, by omega, Ent.weak rfl ⟨rfl, rfl, rfl, rfl, rfl, rfl, rfl, trivial⟩ ⟨rfl, rfl, rfl, trivial⟩ fun _ h => h⟩
        · rw [if_neg (by omega), Prod.mk.injEq] at hq
          obtain ⟨rfl, rfl⟩ := hq
          have e0' := fun (w' : World) (hw' : Rd 4 f4 (sV BB.length (some ah, y22)) RH w') => rd_two hw' hat
          repeat'
           conv => whnf
           first
            | refine zA ?_ | refine zB ?_ | refine zC ?_ | refine zD ?_ | refine zE ?_ | refine zF ?_ | refine zG ?_ | refine zH ?_ | refine zI ?_ | refine splT ?_ | refine splF ?_ | refine splNot ?_
            | ((first | refine splIn (fun hc => ?_) (fun hc => ?_) | refine splD (fun hc => ?_) (fun hc => ?_) | refine splE (fun hc => ?_) (fun hc => ?_) | refine splNE (fun hc => ?_) (fun hc => ?_)) <;> first | (exfalso; omega) | (exfalso; dsimp only at hc; omega) | skip)
            | ((with_reducible show CallEv _ _ 46 _ _ _ _ _); refine callE (k := 46) (fun β w' hbw => h46e _ hbw.2.1 (.inl ⟨rfl, rfl⟩)) ?_)
            | refine idxP env rfl rfl rfl rfl (And.intro (by omega) (by omega)) ?_
            | refine Exists.intro (α := List Value) [iv b0, iv b1] ⟨⟨rfl, fun w' hw' => (e0' w' hw'.2.2.2.2).2⟩, ?_⟩
          all_goals first | (exfalso; omega) | exact ⟨2, by omega, by omega, Ent.weak rfl ⟨rfl, rfl, rfl, rfl, rfl, rfl, rfl, trivial⟩ ⟨rfl, rfl, rfl, trivial⟩ fun _ h => h⟩
    · have h31 := h31o hne
      repeat'
       conv => whnf
       first
        | refine zA ?_ | refine zB ?_ | refine zC ?_ | refine zD ?_ | refine zE ?_ | refine zF ?_ | refine zG ?_ | refine zH ?_ | refine zI ?_ | refine splT ?_ | refine splF ?_ | refine splNot ?_
        | ((first | refine splIn (fun hc => ?_) (fun hc => ?_) | refine splD (fun hc => ?_) (fun hc => ?_) | refine splE (fun hc => ?_) (fun hc => ?_) | refine splNE (fun hc => ?_) (fun hc => ?_)) <;> first | (exfalso; omega) | (exfalso; dsimp only at hc; omega) | skip)
        | ((with_reducible show CallEv _ _ 31 _ _ _ _ _); refine callO 17 [] (.os 17 18 A.length) A.length 1 (A.flatMap iF) 3 rfl (fun β w' _ hbw => (h31 w' hbw.2.2.1).mono fun _ _ ⟨b, c, h1, h2, h3, h4⟩ => ⟨b, c, h1, h2, h3, h4⟩) ?_)
      all_goals first | (exfalso; omega) | skip
      refine loopN2 19 (fun (k : Nat) (D : List Int) => [(3, .ptr 0 0), (7, .ptr 9 0), (8, .v (sV A.length (ya1, ya2))), (9, .v (sV PP.length (some ap, y12))), (10, .v (sV BB.length (y21, y22))), (19, .ptr 16 0), (20, .v (iv 1)), (21, .os 17 18 A.length), (22, .v (iv k))]) (fun k D => [(0, .cells [.v (.slice po PP.length pc), .v (.slice bo BB.length bc), .v (iv f0), .v (iv f1), .v (iv f2), .v (.slice lo LL.length lc)] 48), (9, .cells [.v (sV PP.length y.1), .v (sV BB.length y.2.1), .v (iv f0), .v (iv f1), .v (iv f2), .v (sV LL.length y.2.2)] 58), (16, .cells [.v (iv pb), .v (iv pa)] 91), (17, .own 18 A.length 1 (D.flatMap iF) 3)])
        (fun k D => k ≤ A.length ∧ MvI ⟨po, PP.length, pc, bo, BB.length, bc, f0, f1, f2, lo, LL.length, lc⟩ LL x true k D) (fun k _ => A.length - k) 0 A ⟨Nat.zero_le _, hmv0⟩ ⟨rfl, rfl, rfl, rfl, rfl, rfl, rfl, rfl, rfl, trivial⟩ ⟨rfl, rfl, rfl, rfl, trivial⟩ (fun _ _ _ => ⟨rfl, rfl⟩) ?_
      intro k D ⟨hk, hI⟩
      rcases Nat.lt_or_ge k A.length with hkl | hkl
      · obtain ⟨l, hl⟩ : ∃ l, LL[k]? = some l := ⟨_, List.getElem?_eq_getElem (by omega)⟩
        have hlhk := hlh k l hl
        have h45 := fun (w' : World) hb => h45 k l hl w' hb
        have hkD : k < D.length := by rw [hI.len]; omega
        have hDA : A.length = D.length := by rw [hI.len]; omega
        have hlo := hI.lo hl hlhk
        have hhi := hI.hi hl hlhk
        have hp1 := pul_set hI.pul hl (v := l.lo) ⟨by omega, by omega⟩
        have hp2 := pul_set hI.pul hl (v := hiP ⟨po, PP.length, pc, bo, BB.length, bc, f0, f1, f2, lo, LL.length, lc⟩ l) ⟨by omega, by omega⟩
        have h46a := h46 _ hp1
        have h46b := h46 _ hp2
        rw [List.length_set, ← hDA] at h46a h46b
        rw [List.length_set, List.length_set, ← hDA] at hlo hhi
        clear h46 hmv0 hmvF h31 h31o h31n hp1 hp2
        generalize hiP ⟨po, PP.length, pc, bo, BB.length, bc, f0, f1, f2, lo, LL.length, lc⟩ l = hi at *
        generalize l.lo = lw at *
        cases hq : (decide (dotR x (D.set k lw) A.length > dotR x (D.set k hi) A.length) == ((1 : Int) == 1))
        all_goals skip
        repeat'
         conv => whnf
         first
          | refine zA ?_ | refine zB ?_ | refine zC ?_ | refine zD ?_ | refine zE ?_ | refine zF ?_ | refine zG ?_ | refine zH ?_ | refine zI ?_ | refine splT ?_ | refine splF ?_ | refine splNot ?_
          | ((first | refine splIn (fun hc => ?_) (fun hc => ?_) | refine splD (fun hc => ?_) (fun hc => ?_) | refine splE (fun hc => ?_) (fun hc => ?_) | refine splNE (fun hc => ?_) (fun hc => ?_)) <;> first | (exfalso; omega) | (exfalso; dsimp only at hc; omega) | skip)
          | ((with_reducible show CallEv _ _ 45 _ _ _ _ _); refine callE (k := 45) (fun β w' hbw => h45 _ hbw.1) ?_)
          | (refine And.intro (a := _ + _ ≤ List.length _) (stS' hkD _) ?_; rw [stE hkD])
          | (refine And.intro (a := _ + _ ≤ List.length _) (stS' (by rw [List.length_set]; exact hkD) _) ?_; rw [stE2 hkD])
          | ((with_reducible show CallEv _ _ 46 _ _ _ _ _); refine callM (k := 46) [17] (fun β w' hbk hbw => h46a _ _ w' hbw.2.1 (Rd.of_owns (sz := 1) (f := iF) (fun _ => rfl) rfl (by rw [List.length_set]; exact hDA) (hbk 17 (by simp) _ rfl))) ?_)
          | ((with_reducible show CallEv _ _ 46 _ _ _ _ _); refine callM (k := 46) [17] (fun β w' hbk hbw => h46b _ _ w' hbw.2.1 (Rd.of_owns (sz := 1) (f := iF) (fun _ => rfl) rfl (by rw [List.length_set]; exact hDA) (hbk 17 (by simp) _ rfl))) ?_)
          | refine eqlEBq hq ?_
        all_goals first
          | (exfalso; omega)
          | exact ⟨k + 1, _, ⟨by omega, hlo hq⟩, by omega, Ent.weak rfl ⟨rfl, rfl, rfl, rfl, rfl, rfl, rfl, rfl, rfl, trivial⟩ ⟨rfl, rfl, rfl, rfl, trivial⟩ fun _ h => h⟩
          | exact ⟨k + 1, _, ⟨by omega, hhi hq⟩, by omega, Ent.weak rfl ⟨rfl, rfl, rfl, rfl, rfl, rfl, rfl, rfl, rfl, trivial⟩ ⟨rfl, rfl, rfl, rfl, trivial⟩ fun _ h => h⟩
      · obtain rfl : k = A.length := by omega
        have hfin := hmvF D hI
        have h46e := h46 D hI.pul
        rw [hfin] at h46e
        have hDA : A.length = D.length := by rw [hI.len]; omega
        rw [← hDA] at h46e
        rcases hp with ⟨rfl, h1, h2⟩ | ⟨h1, h2, h3, h4⟩
        · have hat := hRP rfl
          obtain ⟨j, rfl⟩ := Int.eq_ofNat_of_zero_le h1
          rw [Int.toNat_natCast] at hat
          clear hRH hRP hfin
          generalize endD ⟨po, PP.length, pc, bo, BB.length, bc, f0, f1, f2, lo, LL.length, lc⟩ LL x false = e0 at *
          generalize endD ⟨po, PP.length, pc, bo, BB.length, bc, f0, f1, f2, lo, LL.length, lc⟩ LL x true = e1 at *
          repeat'
           conv => whnf
           first
            | refine zA ?_ | refine zB ?_ | refine zC ?_ | refine zD ?_ | refine zE ?_ | refine zF ?_ | refine zG ?_ | refine zH ?_ | refine zI ?_ | refine splT ?_ | refine splF ?_ | refine splNot ?_
            | ((first | refine splIn (fun hc => ?_) (fun hc => ?_) | refine splD (fun hc => ?_) (fun hc => ?_) | refine splE (fun hc => ?_) (fun hc => ?_) | refine splNE (fun hc => ?_) (fun hc => ?_)) <;> first | (exfalso; omega) | (exfalso; dsimp only at hc; omega) | skip)
            | ((with_reducible show CallEv _ _ 46 _ _ _ _ _); refine callM (k := 46) [17] (fun β w' hbk hbw => h46e _ _ w' hbw.2.1 (Rd.of_owns (sz := 1) (f := iF) (fun _ => rfl) rfl hDA (hbk 17 (by simp) _ rfl))) ?_)
            | refine Exists.intro (α := List Value) [iv e0, iv e1] ⟨⟨rfl, fun w' hw' => rd_ati hw'.2.2.2.1 hat⟩, ?_⟩
          all_goals first | (exfalso; omega) | exact ⟨2, by omega, by omega, Ent.weak rfl ⟨rfl, rfl, rfl, rfl, rfl, rfl, rfl, trivial⟩ ⟨rfl, rfl, rfl, trivial⟩ fun _ h => h⟩
        · obtain ⟨⟨a0, a1⟩, ⟨b0, b1⟩, hat, hq⟩ := hRH (by omega)
          obtain ⟨i, rfl⟩ := Int.eq_ofNat_of_zero_le h1
          rw [Int.toNat_natCast] at hat
          obtain ⟨ah, rfl⟩ := hy2 (by rintro rfl; simp at h2; omega)
          clear hRH hRP hfin
          generalize endD ⟨po, PP.length, pc, bo, BB.length, bc, f0, f1, f2, lo, LL.length, lc⟩ LL x false = e0 at *
          generalize endD ⟨po, PP.length, pc, bo, BB.length, bc, f0, f1, f2, lo, LL.length, lc⟩ LL x true = e1 at *
          obtain rfl | rfl : pa = 0 ∨ pa = 1 := by omega
          · rw [if_pos rfl, Prod.mk.injEq] at hq
            obtain ⟨rfl, rfl⟩ := hq
            have e0' := fun (w' : World) (hw' : Rd 4 f4 (sV BB.length (some ah, y22)) RH w') => rd_two hw' hat
            repeat'
             conv => whnf
             first
              | refine zA ?_ | refine zB ?_ | refine zC ?_ | refine zD ?_ | refine zE ?_ | refine zF ?_ | refine zG ?_ | refine zH ?_ | refine zI ?_ | refine splT ?_ | refine splF ?_ | refine splNot ?_
              | ((first | refine splIn (fun hc => ?_) (fun hc => ?_) | refine splD (fun hc => ?_) (fun hc => ?_) | refine splE (fun hc => ?_) (fun hc => ?_) | refine splNE (fun hc => ?_) (fun hc => ?_)) <;> first | (exfalso; omega) | (exfalso; dsimp only at hc; omega) | skip)
              | ((with_reducible show CallEv _ _ 46 _ _ _ _ _); refine callM (k := 46) [17] (fun β w' hbk hbw => h46e _ _ w' hbw.2.1 (Rd.of_owns (sz := 1) (f := iF) (fun _ => rfl) rfl hDA (hbk 17 (by simp) _ rfl))) ?_)
              | refine idxP env rfl rfl rfl rfl (And.intro (by omega) (by omega)) ?_
              | refine Exists.intro (α := List Value) [iv a0, iv a1] ⟨⟨rfl, fun w' hw' => (e0' w' hw'.2.2.2.2).1⟩, ?_⟩
            all_goals first | (exfalso; omega) | exact ⟨2, by omega, by omega, Ent.weak rfl ⟨rfl, rfl, rfl, rfl, rfl, rfl, rfl, trivial⟩ ⟨rfl, rfl, rfl, trivial⟩ fun _ h => h⟩
          · rw [if_neg (by omega), Prod.mk.injEq] at hq
            obtain ⟨rfl, rfl⟩ := hq
            have e0' := fun (w' : World) (hw' : Rd 4 f4 (sV BB.length (some ah, y22)) RH w') => rd_two hw' hat
            repeat'
             conv => whnf
             first
              | refine zA ?_ | refine zB ?_ | refine zC ?_ | refine zD ?_ | refine zE ?_ | refine zF ?_ | refine zG ?_ | refine zH ?_ | refine zI ?_ | refine splT ?_ | refine splF ?_ | refine splNot ?_
              | ((first | refine splIn (fun hc => ?_) (fun hc => ?_) | refine splD (fun hc => ?_) (fun hc => ?_) | refine splE (fun hc => ?_) (fun hc => ?_) | refine splNE (fun hc => ?_) (fun hc => ?_)) <;> first | (exfalso; omega) | (exfalso; dsimp only at hc; omega) | skip)
              | ((with_reducible show CallEv _ _ 46 _ _ _ _ _); refine callM (k := 46) [17] (fun β w' hbk hbw => h46e _ _ w' hbw.2.1 (Rd.of_owns (sz := 1) (f := iF) (fun _ => rfl) rfl hDA (hbk 17 (by simp) _ rfl))) ?_)
              | refine idxP env rfl rfl rfl rfl (And.intro (by omega) (by omega)) ?_
              | refine Exists.intro (α := List Value) [iv b0, iv b1] ⟨⟨rfl, fun w' hw' => (e0' w' hw'.2.2.2.2).2⟩, ?_⟩
            all_goals first | (exfalso; omega) | exact ⟨2, by omega, by omega, Ent.weak rfl ⟨rfl, rfl, rfl, rfl, rfl, rfl, rfl, trivial⟩ ⟨rfl, rfl, rfl, trivial⟩ fun _ h => h⟩
  · skip
    repeat'
     conv => whnf
     first
      | refine zA ?_ | refine zB ?_ | refine zC ?_ | refine zD ?_ | refine zE ?_ | refine zF ?_ | refine zG ?_ | refine zH ?_ | refine zI ?_ | refine splT ?_ | refine splF ?_ | refine splNot ?_
      | ((first | refine splIn (fun hc => ?_) (fun hc => ?_) | refine splD (fun hc => ?_) (fun hc => ?_) | refine splE (fun hc => ?_) (fun hc => ?_) | refine splNE (fun hc => ?_) (fun hc => ?_)) <;> first | (exfalso; omega) | (exfalso; dsimp only at hc; omega) | skip)
      | ((with_reducible show CallEv _ _ 16 _ _ _ _ _); refine callE (k := 16) (fun β w' hbw => awake_ok _) ?_)
    all_goals first | (exfalso; omega) | exact ⟨fun β => rfl, fun w' h => h.1⟩

set_option maxHeartbeats 16000000 in
set_option maxRecDepth 100000 in
theorem EncC (po bo lo : Option Addr) (pn pc bn bc ln lc : Nat) (f0 f1 f2 : Int) (PP : List Int) (BB : List Bm) (LL : List Ld) (A : List Int) (w : World) (hX : RigX ⟨po, pn, pc, bo, bn, bc, f0, f1, f2, lo, ln, lc⟩ PP BB LL w) (hr : rigOk f0 f1 f2 PP BB LL = true) (hA : pulB ⟨po, pn, pc, bo, bn, bc, f0, f1, f2, lo, ln, lc⟩ LL A = true) (wh : Int) (hwh : 0 ≤ wh ∧ wh ≤ 255) (y : (Option Addr × Nat) × (Option Addr × Nat) × (Option Addr × Nat)) (ya : Option Addr × Nat) (y1 y2 y3 y4 : Option Addr × Nat) (hy1 : ∃ ad, y1.1 = some ad) (hy3 : ∃ ad, y3.1 = some ad) (hy2 : BB ≠ [] → ∃ ad, y2.1 = some ad) (hy4 : BB ≠ [] → ∃ ad, y4.1 = some ad) (PT : List Int) (HG : List (Int × Int)) (RP : List (Int × Int)) (RH : List ((Int × Int) × (Int × Int)))
    (hPT : ∀ j, j < PP.length → PT[j]? = some (dotR (rowP (frF BB LL) (-1) j) A A.length) ∧ RP[j]? = some (endD ⟨po, pn, pc, bo, bn, bc, f0, f1, f2, lo, ln, lc⟩ LL (rowP (frF BB LL) (-1) j) false, endD ⟨po, pn, pc, bo, bn, bc, f0, f1, f2, lo, ln, lc⟩ LL (rowP (frF BB LL) (-1) j) true))
    (hHG : ∀ i, i < BB.length → HG[i]? = some (dotR (rowP (frF BB LL) i (0 : Nat)) A A.length, dotR (rowP (frF BB LL) i (1 : Nat)) A A.length) ∧ RH[i]? = some ((endD ⟨po, pn, pc, bo, bn, bc, f0, f1, f2, lo, ln, lc⟩ LL (rowP (frF BB LL) i (0 : Nat)) false, endD ⟨po, pn, pc, bo, bn, bc, f0, f1, f2, lo, ln, lc⟩ LL (rowP (frF BB LL) i (0 : Nat)) true), (endD ⟨po, pn, pc, bo, bn, bc, f0, f1, f2, lo, ln, lc⟩ LL (rowP (frF BB LL) i (1 : Nat)) false, endD ⟨po, pn, pc, bo, bn, bc, f0, f1, f2, lo, ln, lc⟩ LL (rowP (frF BB LL) i (1 : Nat)) true))) :
    VC Try.prog (rest 2 (rest 3 body10)) ⟨271, [(2, .v (.int .u8 wh)), (3, .ptr 0 0), (7, .ptr 9 0), (8, .v (sV A.length ya)), (9, .v (sV PP.length y1)), (10, .v (sV BB.length y2)), (11, .v (iv 0)), (12, .v (sV PP.length y3)), (13, .v (sV BB.length y4)), (14, .v (iv 0))], [(0, .cells [.v (.slice po pn pc), .v (.slice bo bn bc), .v (iv f0), .v (iv f1), .v (iv f2), .v (.slice lo ln lc)] 48), (9, .cells [.v (sV PP.length y.1), .v (sV BB.length y.2.1), .v (iv f0), .v (iv f1), .v (iv f2), .v (sV LL.length y.2.2)] 58)], 16, fun w2 => Below w.heap.size w w2 ∧ nrH PP BB LL y w2 ∧ Rd 1 iF (sV A.length ya) A w2 ∧ Rd 2 gF (sV PP.length y1) RP w2 ∧ Rd 4 f4 (sV BB.length y2) RH w2 ∧ Rd 1 iF (sV PP.length y3) PT w2 ∧ Rd 2 gF (sV BB.length y4) HG w2, z0⟩ (endΦ env Try.f10 fun s σ => (∀ β, s.c β = .bool true) ∧ ∀ w', σ.h w' → Below w.heap.size w w') := by
  have hri := rigOk_iff.1 hr
  have hpn := hX.pn
  have hbn := hX.bn
  have hln := hX.ln
  dsimp only at hpn hbn hln
  subst hpn
  subst hbn
  subst hln
  have hm12 : BB.length ≤ 12 := hri.2.2.1
  have hl20 := hri.2.2.2.2.1
  have hlA := pulB_len hA
  have hP1 := hri.1
  have hLl := prL_len PP.length BB.length
  obtain ⟨kk, hkk⟩ : ∃ kk : Nat, wh % ((prL PP.length BB.length).length : Int) = kk := ⟨(wh % ((prL PP.length BB.length).length : Int)).toNat, by have := Int.emod_nonneg wh (b := ((prL PP.length BB.length).length : Int)) (by omega); omega⟩
  have hkl : kk < (prL PP.length BB.length).length := by have := Int.emod_lt_of_pos wh (b := ((prL PP.length BB.length).length : Int)) (by omega); omega
  obtain ⟨⟨pb, pa⟩, hq⟩ : ∃ q, (prL PP.length BB.length)[kk]? = some q := ⟨_, List.getElem?_eq_getElem hkl⟩
  have hpq := prL_ok hq
  dsimp only at hpq
  have hD := EncD po bo lo PP.length pc BB.length bc LL.length lc f0 f1 f2 PP BB LL A w hX hr hA wh y ya y1 y2 hy1 hy2 RP RH pb pa hpq (fun hb => by
    subst hb
    rcases hpq with ⟨_, h1, h2⟩ | ⟨h1, _⟩
    · obtain ⟨j, rfl⟩ := Int.eq_ofNat_of_zero_le h1
      rw [Int.toNat_natCast]
      exact (hPT j (by omega)).2
    · omega) (fun hb => by
    rcases hpq with ⟨h0, _⟩ | ⟨h1, h2, h3, h4⟩
    · exact absurd h0 hb
    · obtain ⟨i, rfl⟩ := Int.eq_ofNat_of_zero_le h1
      refine ⟨_, _, by rw [Int.toNat_natCast]; exact (hHG i (by omega)).2, ?_⟩
      obtain rfl | rfl : pa = 0 ∨ pa = 1 := by omega
      · rw [if_pos rfl]; rfl
      · rw [if_neg (by omega)]; rfl)
  refine VC.cutH env mixed 5 17 (fun _ : Unit => [(3, .ptr 0 0), (7, .ptr 9 0), (8, .v (sV A.length ya)), (9, .v (sV PP.length y1)), (10, .v (sV BB.length y2)), (19, .ptr 16 0)]) (fun _ => [(0, .cells [.v (.slice po PP.length pc), .v (.slice bo BB.length bc), .v (iv f0), .v (iv f1), .v (iv f2), .v (.slice lo LL.length lc)] 48), (9, .cells [.v (sV PP.length y.1), .v (sV BB.length y.2.1), .v (iv f0), .v (iv f1), .v (iv f2), .v (sV LL.length y.2.2)] 58), (16, .cells [.v (iv pb), .v (iv pa)] 91)]) (fun _ w2 => Below w.heap.size w w2 ∧ nrH PP BB LL y w2 ∧ Rd 1 iF (sV A.length ya) A w2 ∧ Rd 2 gF (sV PP.length y1) RP w2 ∧ Rd 4 f4 (sV BB.length y2) RH w2) (fun _ => True) (fun _ _ => ⟨rfl, rfl⟩) ?_ (fun _ _ => hD)
  clear hD
  have hde := fun (x : Row) => dot_end hA x
  have h39 := fun (w' : World) => Parts_ok ⟨po, PP.length, pc, bo, BB.length, bc, f0, f1, f2, lo, LL.length, lc⟩ w' (by dsimp only; omega) (by dsimp only; omega)
  dsimp only at h39
  generalize prL PP.length BB.length = L at *
  obtain ⟨ya1, ya2⟩ := ya
  obtain ⟨y11, y12⟩ := y1
  obtain ⟨y21, y22⟩ := y2
  obtain ⟨y31, y32⟩ := y3
  obtain ⟨y41, y42⟩ := y4
  obtain ⟨ap, hap⟩ := hy1
  obtain ⟨aq, haq⟩ := hy3
  dsimp only at hap haq hy2 hy4
  subst hap
  subst haq
  repeat'
   conv => whnf
   first
    | refine zA ?_ | refine zB ?_ | refine zC ?_ | refine zD ?_ | refine zE ?_ | refine zF ?_ | refine zG ?_ | refine zH ?_ | refine zI ?_ | refine splT ?_ | refine splF ?_ | refine splNot ?_
    | ((first | refine splIn (fun hc => ?_) (fun hc => ?_) | refine splD (fun hc => ?_) (fun hc => ?_) | refine splE (fun hc => ?_) (fun hc => ?_) | refine splNE (fun hc => ?_) (fun hc => ?_)) <;> first | (exfalso; omega) | (exfalso; dsimp only at hc; omega) | skip)
  all_goals first | (exfalso; omega) | skip
  refine loopN 16 (fun k : Nat => [(2, .v (.int .u8 wh)), (3, .ptr 0 0), (7, .ptr 9 0), (8, .v (sV A.length (ya1, ya2))), (9, .v (sV PP.length (some ap, y12))), (10, .v (sV BB.length (y21, y22))), (11, .v (iv 0)), (12, .v (sV PP.length (some aq, y32))), (13, .v (sV BB.length (y41, y42))), (14, .v (iv 0)), (15, .v (iv k))]) (fun _ => [(0, .cells [.v (.slice po PP.length pc), .v (.slice bo BB.length bc), .v (iv f0), .v (iv f1), .v (iv f2), .v (.slice lo LL.length lc)] 48), (9, .cells [.v (sV PP.length y.1), .v (sV BB.length y.2.1), .v (iv f0), .v (iv f1), .v (iv f2), .v (sV LL.length y.2.2)] 58)]) (fun k => k ≤ PP.length) (fun k => PP.length - k) 0 (Nat.zero_le _) ⟨rfl, rfl, rfl, rfl, rfl, rfl, rfl, rfl, rfl, rfl, rfl, trivial⟩ ⟨rfl, rfl, trivial⟩ (fun _ _ => ⟨rfl, rfl⟩) ?_
  intro k hk
  rcases Nat.lt_or_ge k PP.length with hkP | hkP
  · obtain ⟨ht1, ht2⟩ := hPT k hkP
    have hb := hde (rowP (frF BB LL) (-1) k)
    generalize dotR (rowP (frF BB LL) (-1) k) A A.length = d at *
    generalize endD ⟨po, PP.length, pc, bo, BB.length, bc, f0, f1, f2, lo, LL.length, lc⟩ LL (rowP (frF BB LL) (-1) k) false = e0 at *
    generalize endD ⟨po, PP.length, pc, bo, BB.length, bc, f0, f1, f2, lo, LL.length, lc⟩ LL (rowP (frF BB LL) (-1) k) true = e1 at *
    repeat'
     conv => whnf
     first
      | refine zA ?_ | refine zB ?_ | refine zC ?_ | refine zD ?_ | refine zE ?_ | refine zF ?_ | refine zG ?_ | refine zH ?_ | refine zI ?_ | refine splT ?_ | refine splF ?_ | refine splNot ?_
      | ((first | refine splIn (fun hc => ?_) (fun hc => ?_) | refine splD (fun hc => ?_) (fun hc => ?_) | refine splE (fun hc => ?_) (fun hc => ?_) | refine splNE (fun hc => ?_) (fun hc => ?_)) <;> first | (exfalso; omega) | (exfalso; dsimp only at hc; omega) | skip)
      | refine Exists.intro (α := List Value) [iv d] ⟨⟨rfl, fun w' hw' => rd_ati hw'.2.2.2.2.2.1 ht1⟩, ?_⟩
      | refine Exists.intro (α := List Value) [iv e0] ⟨⟨rfl, fun w' hw' => rd_fld hw'.2.2.2.1 ht2 0 (iv e0) rfl⟩, ?_⟩
      | refine Exists.intro (α := List Value) [iv e1] ⟨⟨rfl, fun w' hw' => rd_fld hw'.2.2.2.1 ht2 1 (iv e1) rfl⟩, ?_⟩
    all_goals first | (exfalso; omega) | exact ⟨k + 1, by omega, by omega, Ent.weak rfl ⟨rfl, rfl, rfl, rfl, rfl, rfl, rfl, rfl, rfl, rfl, rfl, trivial⟩ ⟨rfl, rfl, trivial⟩ fun _ h => h⟩
  obtain rfl : k = PP.length := by omega
  repeat'
   conv => whnf
   first
    | refine zA ?_ | refine zB ?_ | refine zC ?_ | refine zD ?_ | refine zE ?_ | refine zF ?_ | refine zG ?_ | refine zH ?_ | refine zI ?_ | refine splT ?_ | refine splF ?_ | refine splNot ?_
    | ((first | refine splIn (fun hc => ?_) (fun hc => ?_) | refine splD (fun hc => ?_) (fun hc => ?_) | refine splE (fun hc => ?_) (fun hc => ?_) | refine splNE (fun hc => ?_) (fun hc => ?_)) <;> first | (exfalso; omega) | (exfalso; dsimp only at hc; omega) | skip)
  all_goals first | (exfalso; omega) | skip
  refine loopN 16 (fun k : Nat => [(2, .v (.int .u8 wh)), (3, .ptr 0 0), (7, .ptr 9 0), (8, .v (sV A.length (ya1, ya2))), (9, .v (sV PP.length (some ap, y12))), (10, .v (sV BB.length (y21, y22))), (11, .v (iv 0)), (12, .v (sV PP.length (some aq, y32))), (13, .v (sV BB.length (y41, y42))), (14, .v (iv 0)), (16, .v (iv k))]) (fun _ => [(0, .cells [.v (.slice po PP.length pc), .v (.slice bo BB.length bc), .v (iv f0), .v (iv f1), .v (iv f2), .v (.slice lo LL.length lc)] 48), (9, .cells [.v (sV PP.length y.1), .v (sV BB.length y.2.1), .v (iv f0), .v (iv f1), .v (iv f2), .v (sV LL.length y.2.2)] 58)]) (fun k => k ≤ BB.length) (fun k => BB.length - k) 0 (Nat.zero_le _) ⟨rfl, rfl, rfl, rfl, rfl, rfl, rfl, rfl, rfl, rfl, rfl, trivial⟩ ⟨rfl, rfl, trivial⟩ (fun _ _ => ⟨rfl, rfl⟩) ?_
  clear hk hkP
  intro k hk
  rcases Nat.lt_or_ge k BB.length with hkP | hkP
  · obtain ⟨ht1, ht2⟩ := hHG k hkP
    have hb0 := hde (rowP (frF BB LL) k (0 : Nat))
    have hb1 := hde (rowP (frF BB LL) k (1 : Nat))
    obtain ⟨ah, rfl⟩ := hy2 (by rintro rfl; simp at hkP)
    obtain ⟨ag, rfl⟩ := hy4 (by rintro rfl; simp at hkP)
    generalize dotR (rowP (frF BB LL) k (0 : Nat)) A A.length = d0 at *
    generalize endD ⟨po, PP.length, pc, bo, BB.length, bc, f0, f1, f2, lo, LL.length, lc⟩ LL (rowP (frF BB LL) k (0 : Nat)) false = a0 at *
    generalize endD ⟨po, PP.length, pc, bo, BB.length, bc, f0, f1, f2, lo, LL.length, lc⟩ LL (rowP (frF BB LL) k (0 : Nat)) true = a1 at *
    generalize dotR (rowP (frF BB LL) k (1 : Nat)) A A.length = d1 at *
    generalize endD ⟨po, PP.length, pc, bo, BB.length, bc, f0, f1, f2, lo, LL.length, lc⟩ LL (rowP (frF BB LL) k (1 : Nat)) false = b0 at *
    generalize endD ⟨po, PP.length, pc, bo, BB.length, bc, f0, f1, f2, lo, LL.length, lc⟩ LL (rowP (frF BB LL) k (1 : Nat)) true = b1 at *
    have q4 := fun (w' : World) (hw' : Rd 4 f4 (sV BB.length (some ah, y22)) RH w') => rd_quad hw' ht2
    repeat'
     conv => whnf
     first
      | refine zA ?_ | refine zB ?_ | refine zC ?_ | refine zD ?_ | refine zE ?_ | refine zF ?_ | refine zG ?_ | refine zH ?_ | refine zI ?_ | refine splT ?_ | refine splF ?_ | refine splNot ?_
      | ((first | refine splIn (fun hc => ?_) (fun hc => ?_) | refine splD (fun hc => ?_) (fun hc => ?_) | refine splE (fun hc => ?_) (fun hc => ?_) | refine splNE (fun hc => ?_) (fun hc => ?_)) <;> first | (exfalso; omega) | (exfalso; dsimp only at hc; omega) | skip)
    refine loopN 16 (fun c : Nat => [(2, .v (.int .u8 wh)), (3, .ptr 0 0), (7, .ptr 9 0), (8, .v (sV A.length (ya1, ya2))), (9, .v (sV PP.length (some ap, y12))), (10, .v (sV BB.length (some ah, y22))), (11, .v (iv 0)), (12, .v (sV PP.length (some aq, y32))), (13, .v (sV BB.length (some ag, y42))), (14, .v (iv 0)), (16, .v (iv k)), (17, .v (iv c))]) (fun _ => [(0, .cells [.v (.slice po PP.length pc), .v (.slice bo BB.length bc), .v (iv f0), .v (iv f1), .v (iv f2), .v (.slice lo LL.length lc)] 48), (9, .cells [.v (sV PP.length y.1), .v (sV BB.length y.2.1), .v (iv f0), .v (iv f1), .v (iv f2), .v (sV LL.length y.2.2)] 58)]) (fun c => c ≤ 2) (fun c => 2 - c) 0 (Nat.zero_le _) ⟨rfl, rfl, rfl, rfl, rfl, rfl, rfl, rfl, rfl, rfl, rfl, rfl, trivial⟩ ⟨rfl, rfl, trivial⟩ (fun _ _ => ⟨rfl, rfl⟩) ?_
    intro c hc
    obtain rfl | rfl | rfl : c = 0 ∨ c = 1 ∨ c = 2 := by omega
    · skip
      repeat'
       conv => whnf
       first
        | refine zA ?_ | refine zB ?_ | refine zC ?_ | refine zD ?_ | refine zE ?_ | refine zF ?_ | refine zG ?_ | refine zH ?_ | refine zI ?_ | refine splT ?_ | refine splF ?_ | refine splNot ?_
        | ((first | refine splIn (fun hc => ?_) (fun hc => ?_) | refine splD (fun hc => ?_) (fun hc => ?_) | refine splE (fun hc => ?_) (fun hc => ?_) | refine splNE (fun hc => ?_) (fun hc => ?_)) <;> first | (exfalso; omega) | (exfalso; dsimp only at hc; omega) | skip)
        | refine idxP env rfl rfl rfl rfl (And.intro (by omega) (by omega)) ?_
        | refine Exists.intro (α := List Value) [iv d0] ⟨⟨rfl, fun w' hw' => rd_fld hw'.2.2.2.2.2.2 ht1 0 (iv d0) rfl⟩, ?_⟩
        | refine Exists.intro (α := List Value) [iv a0] ⟨⟨rfl, fun w' hw' => (q4 w' hw'.2.2.2.2.1).1⟩, ?_⟩
        | refine Exists.intro (α := List Value) [iv a1] ⟨⟨rfl, fun w' hw' => (q4 w' hw'.2.2.2.2.1).2.1⟩, ?_⟩
      all_goals first | (exfalso; omega) | exact ⟨1, by omega, by omega, Ent.weak rfl ⟨rfl, rfl, rfl, rfl, rfl, rfl, rfl, rfl, rfl, rfl, rfl, rfl, trivial⟩ ⟨rfl, rfl, trivial⟩ fun _ h => h⟩
    · skip
      repeat'
       conv => whnf
       first
        | refine zA ?_ | refine zB ?_ | refine zC ?_ | refine zD ?_ | refine zE ?_ | refine zF ?_ | refine zG ?_ | refine zH ?_ | refine zI ?_ | refine splT ?_ | refine splF ?_ | refine splNot ?_
        | ((first | refine splIn (fun hc => ?_) (fun hc => ?_) | refine splD (fun hc => ?_) (fun hc => ?_) | refine splE (fun hc => ?_) (fun hc => ?_) | refine splNE (fun hc => ?_) (fun hc => ?_)) <;> first | (exfalso; omega) | (exfalso; dsimp only at hc; omega) | skip)
        | refine idxP env rfl rfl rfl rfl (And.intro (by omega) (by omega)) ?_
        | refine Exists.intro (α := List Value) [iv d1] ⟨⟨rfl, fun w' hw' => rd_fld hw'.2.2.2.2.2.2 ht1 1 (iv d1) rfl⟩, ?_⟩
        | refine Exists.intro (α := List Value) [iv b0] ⟨⟨rfl, fun w' hw' => (q4 w' hw'.2.2.2.2.1).2.2.1⟩, ?_⟩
        | refine Exists.intro (α := List Value) [iv b1] ⟨⟨rfl, fun w' hw' => (q4 w' hw'.2.2.2.2.1).2.2.2⟩, ?_⟩
      all_goals first | (exfalso; omega) | exact ⟨2, by omega, by omega, Ent.weak rfl ⟨rfl, rfl, rfl, rfl, rfl, rfl, rfl, rfl, rfl, rfl, rfl, rfl, trivial⟩ ⟨rfl, rfl, trivial⟩ fun _ h => h⟩
    · skip
      repeat'
       conv => whnf
       first
        | refine zA ?_ | refine zB ?_ | refine zC ?_ | refine zD ?_ | refine zE ?_ | refine zF ?_ | refine zG ?_ | refine zH ?_ | refine zI ?_ | refine splT ?_ | refine splF ?_ | refine splNot ?_
        | ((first | refine splIn (fun hc => ?_) (fun hc => ?_) | refine splD (fun hc => ?_) (fun hc => ?_) | refine splE (fun hc => ?_) (fun hc => ?_) | refine splNE (fun hc => ?_) (fun hc => ?_)) <;> first | (exfalso; omega) | (exfalso; dsimp only at hc; omega) | skip)
      all_goals first | (exfalso; omega) | exact ⟨k + 1, by omega, by omega, Ent.weak rfl ⟨rfl, rfl, rfl, rfl, rfl, rfl, rfl, rfl, rfl, rfl, rfl, trivial⟩ ⟨rfl, rfl, trivial⟩ fun _ h => h⟩
  obtain rfl : k = BB.length := by omega
  repeat'
   conv => whnf
   first
    | refine zA ?_ | refine zB ?_ | refine zC ?_ | refine zD ?_ | refine zE ?_ | refine zF ?_ | refine zG ?_ | refine zH ?_ | refine zI ?_ | refine splT ?_ | refine splF ?_ | refine splNot ?_
    | ((first | refine splIn (fun hc => ?_) (fun hc => ?_) | refine splD (fun hc => ?_) (fun hc => ?_) | refine splE (fun hc => ?_) (fun hc => ?_) | refine splNE (fun hc => ?_) (fun hc => ?_)) <;> first | (exfalso; omega) | (exfalso; dsimp only at hc; omega) | skip)
    | ((with_reducible show CallEv _ _ 39 _ _ _ _ _); refine callF [] (fun y : YS L => sV L.length y.1) (fun y => Rd 2 gF (sV L.length y.1) L) (fun β w' _ hbw => h39 w') ?_; intro u; obtain ⟨⟨u1, u2⟩, hu0⟩ := u; dsimp only at hu0 ⊢; obtain ⟨ua, rfl⟩ := hu0.resolve_left fun hc => by rw [hc] at hkl; simp at hkl)
    | refine Exists.intro (α := Value) (iv wh) ⟨cv8 wh hwh, ?_⟩
    | (refine remE (by omega) (by omega) ?_; rw [hkk])
    | refine Exists.intro (α := List Value) [iv pb, iv pa] ⟨⟨rfl, fun w' hw' => rd_ati hw'.2 hq⟩, ?_⟩
  all_goals first | (exfalso; omega) | exact ⟨rfl, (), trivial, Ent.weak rfl ⟨rfl, rfl, rfl, rfl, rfl, rfl, trivial⟩ ⟨rfl, rfl, rfl, trivial⟩ fun _ h => ⟨h.1.1, h.1.2.1, h.1.2.2.1, h.1.2.2.2.1, h.1.2.2.2.2.1⟩⟩

set_option maxHeartbeats 16000000 in
set_option maxRecDepth 100000 in
theorem EncB (po bo lo : Option Addr) (pn pc bn bc ln lc : Nat) (f0 f1 f2 : Int) (PP : List Int) (BB : List Bm) (LL : List Ld) (A : List Int) (w : World) (hX : RigX ⟨po, pn, pc, bo, bn, bc, f0, f1, f2, lo, ln, lc⟩ PP BB LL w) (hr : rigOk f0 f1 f2 PP BB LL = true) (hA : pulB ⟨po, pn, pc, bo, bn, bc, f0, f1, f2, lo, ln, lc⟩ LL A = true) (wh : Int) (hwh : 0 ≤ wh ∧ wh ≤ 255) (y : (Option Addr × Nat) × (Option Addr × Nat) × (Option Addr × Nat)) (ya : Option Addr × Nat) : VC Try.prog (rest 3 body10) ⟨271, [(2, .v (.int .u8 wh)), (3, .ptr 0 0), (7, .ptr 9 0), (8, .v (sV A.length ya))], [(0, .cells [.v (.slice po pn pc), .v (.slice bo bn bc), .v (iv f0), .v (iv f1), .v (iv f2), .v (.slice lo ln lc)] 48), (9, .cells [.v (sV PP.length y.1), .v (sV BB.length y.2.1), .v (iv f0), .v (iv f1), .v (iv f2), .v (sV LL.length y.2.2)] 58)], 10, fun w2 => (Below w.heap.size w w2 ∧ nrH PP BB LL y w2) ∧ Rd 1 iF (sV A.length ya) A w2, z0⟩ (endΦ env Try.f10 fun s σ => (∀ β, s.c β = .bool true) ∧ ∀ w', σ.h w' → Below w.heap.size w w') := by
  have hri := rigOk_iff.1 hr
  have hpn := hX.pn
  have hbn := hX.bn
  have hln := hX.ln
  dsimp only at hpn hbn hln
  subst hpn
  subst hbn
  subst hln
  have hm12 : BB.length ≤ 12 := hri.2.2.1
  have hl20 := hri.2.2.2.2.1
  have hlA := pulB_len hA
  have hA' : pulB (nrR PP BB LL f0 f1 f2 y) LL A = true := (pulB_fac (fac_eq (r := nrR PP BB LL f0 f1 f2 y) (r' := ⟨po, PP.length, pc, bo, BB.length, bc, f0, f1, f2, lo, LL.length, lc⟩) rfl rfl rfl) LL A).trans hA
  have hP1 := hri.1
  have h38 := fun (w' : World) (h : nrH PP BB LL y w') => Ranges_nr PP BB LL f0 f1 f2 ⟨po, PP.length, pc, bo, BB.length, bc, f0, f1, f2, lo, LL.length, lc⟩ hr ⟨rfl, rfl, rfl⟩ y w' h (by omega) (by omega) (by omega)
  have hBo := fun (o : Option Addr) (c : Nat) (w' : World) (h : nrH PP BB LL y w') (hP : Rd 1 iF (.slice o A.length c) A w') => Bears_own (nrR PP BB LL f0 f1 f2 y) PP BB LL A o c w' (h.rin (by omega) (by omega) (by omega)) hP (by omega) hr hA'
  have hPn : (bPt (frF BB LL) PP.length A).length = PP.length := by simp [bPt]
  have hHn : (bHg (frF BB LL) BB.length A).length = BB.length := by simp [bHg]
  have hRn : (rgPt ⟨po, PP.length, pc, bo, BB.length, bc, f0, f1, f2, lo, LL.length, lc⟩ LL (frF BB LL) PP.length).length = PP.length := by simp [rgPt]
  have hGn : (rgHg ⟨po, PP.length, pc, bo, BB.length, bc, f0, f1, f2, lo, LL.length, lc⟩ LL (frF BB LL) BB.length).length = BB.length := by simp [rgHg]
  have hPT : ∀ j, j < PP.length → (bPt (frF BB LL) PP.length A)[j]? = some (dotR (rowP (frF BB LL) (-1) j) A A.length) ∧ (rgPt ⟨po, PP.length, pc, bo, BB.length, bc, f0, f1, f2, lo, LL.length, lc⟩ LL (frF BB LL) PP.length)[j]? = some (endD ⟨po, PP.length, pc, bo, BB.length, bc, f0, f1, f2, lo, LL.length, lc⟩ LL (rowP (frF BB LL) (-1) j) false, endD ⟨po, PP.length, pc, bo, BB.length, bc, f0, f1, f2, lo, LL.length, lc⟩ LL (rowP (frF BB LL) (-1) j) true) := fun j hj => by
    rw [rowP_p']; exact ⟨rng_at _ hj, rng_at (fun j => rgW ⟨po, PP.length, pc, bo, BB.length, bc, f0, f1, f2, lo, LL.length, lc⟩ LL ((frF BB LL).p j)) hj⟩
  have hHG : ∀ i, i < BB.length → (bHg (frF BB LL) BB.length A)[i]? = some (dotR (rowP (frF BB LL) i (0 : Nat)) A A.length, dotR (rowP (frF BB LL) i (1 : Nat)) A A.length) ∧ (rgHg ⟨po, PP.length, pc, bo, BB.length, bc, f0, f1, f2, lo, LL.length, lc⟩ LL (frF BB LL) BB.length)[i]? = some ((endD ⟨po, PP.length, pc, bo, BB.length, bc, f0, f1, f2, lo, LL.length, lc⟩ LL (rowP (frF BB LL) i (0 : Nat)) false, endD ⟨po, PP.length, pc, bo, BB.length, bc, f0, f1, f2, lo, LL.length, lc⟩ LL (rowP (frF BB LL) i (0 : Nat)) true), (endD ⟨po, PP.length, pc, bo, BB.length, bc, f0, f1, f2, lo, LL.length, lc⟩ LL (rowP (frF BB LL) i (1 : Nat)) false, endD ⟨po, PP.length, pc, bo, BB.length, bc, f0, f1, f2, lo, LL.length, lc⟩ LL (rowP (frF BB LL) i (1 : Nat)) true)) := fun i hi => by
    rw [rowP_h', rowP_h']; exact ⟨rng_at (fun j => (dotR ((frF BB LL).h j 0) A A.length, dotR ((frF BB LL).h j 1) A A.length)) hi, rng_at (fun j => (rgW ⟨po, PP.length, pc, bo, BB.length, bc, f0, f1, f2, lo, LL.length, lc⟩ LL ((frF BB LL).h j 0), rgW ⟨po, PP.length, pc, bo, BB.length, bc, f0, f1, f2, lo, LL.length, lc⟩ LL ((frF BB LL).h j 1))) hi⟩
  have hC := fun (y1 y2 y3 y4 : Option Addr × Nat) h1 h3 h2 h4 => EncC po bo lo PP.length pc BB.length bc LL.length lc f0 f1 f2 PP BB LL A w hX hr hA wh hwh y ya y1 y2 y3 y4 h1 h3 h2 h4 _ _ _ _ hPT hHG
  clear hPT hHG
  generalize bPt (frF BB LL) PP.length A = PT at *
  generalize bHg (frF BB LL) BB.length A = HG at *
  generalize rgPt ⟨po, PP.length, pc, bo, BB.length, bc, f0, f1, f2, lo, LL.length, lc⟩ LL (frF BB LL) PP.length = RP at *
  generalize rgHg ⟨po, PP.length, pc, bo, BB.length, bc, f0, f1, f2, lo, LL.length, lc⟩ LL (frF BB LL) BB.length = RH at *
  have hnn : ∀ {α : Type} {L : List α} {n : Nat}, L.length = n → 1 ≤ n → L ≠ [] := fun h1 h2 hc => by rw [hc] at h1; simp at h1; omega
  refine VC.cutD env mixed 2 16 (fun x : (YS RP × YS RH) × (YS PT × YS HG) => [(2, .v (.int .u8 wh)), (3, .ptr 0 0), (7, .ptr 9 0), (8, .v (sV A.length ya)), (9, .v (sV PP.length x.1.1.1)), (10, .v (sV BB.length x.1.2.1)), (11, .v (iv 0)), (12, .v (sV PP.length x.2.1.1)), (13, .v (sV BB.length x.2.2.1)), (14, .v (iv 0))]) (fun _ => [(0, .cells [.v (.slice po PP.length pc), .v (.slice bo BB.length bc), .v (iv f0), .v (iv f1), .v (iv f2), .v (.slice lo LL.length lc)] 48), (9, .cells [.v (sV PP.length y.1), .v (sV BB.length y.2.1), .v (iv f0), .v (iv f1), .v (iv f2), .v (sV LL.length y.2.2)] 58)])
    (fun x w2 => Below w.heap.size w w2 ∧ nrH PP BB LL y w2 ∧ Rd 1 iF (sV A.length ya) A w2 ∧ Rd 2 gF (sV PP.length x.1.1.1) RP w2 ∧ Rd 4 f4 (sV BB.length x.1.2.1) RH w2 ∧ Rd 1 iF (sV PP.length x.2.1.1) PT w2 ∧ Rd 2 gF (sV BB.length x.2.2.1) HG w2) (fun _ => True) (fun _ _ => ⟨rfl, rfl⟩) ?_
    (fun x _ => hC x.1.1.1 x.1.2.1 x.2.1.1 x.2.2.1 (x.1.1.2.resolve_left (hnn hRn (by omega))) (x.2.1.2.resolve_left (hnn hPn (by omega))) (fun h => x.1.2.2.resolve_left (hnn hGn (by cases BB with | nil => exact absurd rfl h | cons => simp))) (fun h => x.2.2.2.resolve_left (hnn hHn (by cases BB with | nil => exact absurd rfl h | cons => simp))))
  clear hC hnn
  obtain ⟨ya1, ya2⟩ := ya
  by_cases hne : A = []
  · subst hne
    have h31 := fun (w' : World) (hP : Rd 1 iF (.slice ya1 0 ya2) [] w') => list_none ya1 ya2 w' hP
    cases HG with
    | nil =>
      skip
      repeat'
       conv => whnf
       first
        | refine zA ?_ | refine zB ?_ | refine zC ?_ | refine zD ?_ | refine zE ?_ | refine zF ?_ | refine zG ?_ | refine zH ?_ | refine zI ?_ | refine splT ?_ | refine splF ?_ | refine splNot ?_
        | ((first | refine splIn (fun hc => ?_) (fun hc => ?_) | refine splD (fun hc => ?_) (fun hc => ?_) | refine splE (fun hc => ?_) (fun hc => ?_) | refine splNE (fun hc => ?_) (fun hc => ?_)) <;> first | (exfalso; omega) | (exfalso; dsimp only at hc; omega) | skip)
        | ((with_reducible show CallEv _ _ 38 _ _ _ _ _); refine callF [] (fun z : YS RP × YS RH => .tuple #[sV PP.length z.1.1, sV BB.length z.2.1, iv 0]) (fun z w2 => Rd 2 gF (sV PP.length z.1.1) RP w2 ∧ Rd 4 f4 (sV BB.length z.2.1) RH w2) (fun β w' _ hbw => h38 w' hbw.1.2) ?_; intro z)
        | ((with_reducible show CallEv _ _ 31 _ _ _ _ _); refine callE (k := 31) (fun β w' hbw => h31 _ hbw.1.2) ?_)
        | ((with_reducible show CallEv _ _ 29 _ _ _ _ _); refine callR [10, 11, 12, 13] [] (brM 10 PT []) (brS 10 PP.length []) rfl (fun i b hi => by simp [brM, oM] at hi; obtain ⟨rfl, _⟩ := hi; decide) (fun β w' hbk hbw => (hBo none 0 w' hbw.1.1.2 (.inl ⟨rfl, rfl⟩)).mono fun e w2 h => mv_gen (nb := 10) (k := 4) rfl (br_V 10 _ _) (br_m 10 _ _) h) ?_)
      exact ⟨rfl, Dis.mk [10] (fun i hi => by simp at hi; subst hi; exact ⟨_, rfl, rfl⟩) fun β w1 hb hw => ⟨(z, (⟨(some ⟨β 10, 0, none⟩, β 11), .inr ⟨_, rfl⟩⟩, ⟨(none, 0), .inl rfl⟩)), trivial, ⟨⟨_, rfl, rfl⟩, ⟨_, rfl, rfl⟩, ⟨_, rfl, rfl⟩, ⟨_, rfl, rfl⟩, ⟨_, rfl, rfl⟩, ⟨_, rfl, rfl⟩, ⟨_, rfl, rfl⟩, ⟨_, rfl, rfl⟩, ⟨_, rfl, by rw [← hHn]; rfl⟩, ⟨_, rfl, rfl⟩, trivial⟩, ⟨⟨rfl, _, _, _, rfl, rfl, rfl⟩, ⟨rfl, _, _, _, rfl, rfl, rfl⟩, trivial⟩, fun w2 h2 hb2 => ⟨h2.1.1.1, h2.1.1.2, h2.1.2, h2.2.1, h2.2.2, Rd.of_owns (sz := 1) (f := iF) (fun _ => rfl) rfl hPn.symm (by rw [← hPn]; exact hb2 10 (by simp) _ rfl), by rw [← hHn]; exact .inl ⟨rfl, rfl⟩⟩⟩⟩
    | cons g0 HG =>
      skip
      repeat'
       conv => whnf
       first
        | refine zA ?_ | refine zB ?_ | refine zC ?_ | refine zD ?_ | refine zE ?_ | refine zF ?_ | refine zG ?_ | refine zH ?_ | refine zI ?_ | refine splT ?_ | refine splF ?_ | refine splNot ?_
        | ((first | refine splIn (fun hc => ?_) (fun hc => ?_) | refine splD (fun hc => ?_) (fun hc => ?_) | refine splE (fun hc => ?_) (fun hc => ?_) | refine splNE (fun hc => ?_) (fun hc => ?_)) <;> first | (exfalso; omega) | (exfalso; dsimp only at hc; omega) | skip)
        | ((with_reducible show CallEv _ _ 38 _ _ _ _ _); refine callF [] (fun z : YS RP × YS RH => .tuple #[sV PP.length z.1.1, sV BB.length z.2.1, iv 0]) (fun z w2 => Rd 2 gF (sV PP.length z.1.1) RP w2 ∧ Rd 4 f4 (sV BB.length z.2.1) RH w2) (fun β w' _ hbw => h38 w' hbw.1.2) ?_; intro z)
        | ((with_reducible show CallEv _ _ 31 _ _ _ _ _); refine callE (k := 31) (fun β w' hbw => h31 _ hbw.1.2) ?_)
        | ((with_reducible show CallEv _ _ 29 _ _ _ _ _); refine callR [10, 11, 12, 13] [] (brM 10 PT (g0 :: HG)) (brS 10 PP.length (g0 :: HG)) rfl (fun i b hi => by simp [brM, oM] at hi; rcases hi with ⟨rfl, _⟩ | ⟨rfl, _⟩ <;> decide) (fun β w' hbk hbw => (hBo none 0 w' hbw.1.1.2 (.inl ⟨rfl, rfl⟩)).mono fun e w2 h => mv_gen (nb := 10) (k := 4) rfl (br_V 10 _ _) (br_m 10 _ _) h) ?_)
      exact ⟨rfl, Dis.mk [10, 12] (fun i hi => by simp at hi; rcases hi with rfl | rfl <;> exact ⟨_, rfl, rfl⟩) fun β w1 hb hw => ⟨(z, (⟨(some ⟨β 10, 0, none⟩, β 11), .inr ⟨_, rfl⟩⟩, ⟨(some ⟨β 12, 0, none⟩, β 13), .inr ⟨_, rfl⟩⟩)), trivial, ⟨⟨_, rfl, rfl⟩, ⟨_, rfl, rfl⟩, ⟨_, rfl, rfl⟩, ⟨_, rfl, rfl⟩, ⟨_, rfl, rfl⟩, ⟨_, rfl, rfl⟩, ⟨_, rfl, rfl⟩, ⟨_, rfl, rfl⟩, ⟨_, rfl, by rw [← hHn]; rfl⟩, ⟨_, rfl, rfl⟩, trivial⟩, ⟨⟨rfl, _, _, _, rfl, rfl, rfl⟩, ⟨rfl, _, _, _, rfl, rfl, rfl⟩, trivial⟩, fun w2 h2 hb2 => ⟨h2.1.1.1, h2.1.1.2, h2.1.2, h2.2.1, h2.2.2, Rd.of_owns (sz := 1) (f := iF) (fun _ => rfl) rfl hPn.symm (by rw [← hPn]; exact hb2 10 (by simp) _ rfl), Rd.of_owns (sz := 2) (f := gF) (fun _ => rfl) rfl hHn.symm (by rw [← hHn]; exact hb2 12 (by simp) _ rfl)⟩⟩⟩
  · have h31 := fun (w' : World) (hP : Rd 1 iF (.slice ya1 A.length ya2) A w') => list_own A ya1 ya2 w' hP hne (by omega)
    cases HG with
    | nil =>
      skip
      repeat'
       conv => whnf
       first
        | refine zA ?_ | refine zB ?_ | refine zC ?_ | refine zD ?_ | refine zE ?_ | refine zF ?_ | refine zG ?_ | refine zH ?_ | refine zI ?_ | refine splT ?_ | refine splF ?_ | refine splNot ?_
        | ((first | refine splIn (fun hc => ?_) (fun hc => ?_) | refine splD (fun hc => ?_) (fun hc => ?_) | refine splE (fun hc => ?_) (fun hc => ?_) | refine splNE (fun hc => ?_) (fun hc => ?_)) <;> first | (exfalso; omega) | (exfalso; dsimp only at hc; omega) | skip)
        | ((with_reducible show CallEv _ _ 38 _ _ _ _ _); refine callF [] (fun z : YS RP × YS RH => .tuple #[sV PP.length z.1.1, sV BB.length z.2.1, iv 0]) (fun z w2 => Rd 2 gF (sV PP.length z.1.1) RP w2 ∧ Rd 4 f4 (sV BB.length z.2.1) RH w2) (fun β w' _ hbw => h38 w' hbw.1.2) ?_; intro z)
        | ((with_reducible show CallEv _ _ 31 _ _ _ _ _); refine callO 10 [] (.os 10 11 A.length) A.length 1 (A.flatMap iF) 3 rfl (fun β w' _ hbw => (h31 w' hbw.1.2).mono fun _ _ ⟨b, c, h1, h2, h3, h4⟩ => ⟨b, c, h1, h2, h3, h4⟩) ?_)
        | ((with_reducible show CallEv _ _ 29 _ _ _ _ _); refine callR [12, 13, 14, 15] [10] (brM 12 PT []) (brS 12 PP.length []) rfl (fun i b hi => by simp [brM, oM] at hi; obtain ⟨rfl, _⟩ := hi; decide) (fun β w' hbk hbw => (hBo (some ⟨β 10, 0, none⟩) (β 11) w' hbw.1.1.2 (Rd.of_owns (sz := 1) (f := iF) (fun _ => rfl) rfl rfl (hbk 10 (by simp) _ rfl))).mono fun e w2 h => mv_gen (nb := 12) (k := 4) rfl (br_V 12 _ _) (br_m 12 _ _) h) ?_)
      exact ⟨rfl, Dis.mk [12] (fun i hi => by simp at hi; subst hi; exact ⟨_, rfl, rfl⟩) fun β w1 hb hw => ⟨(z, (⟨(some ⟨β 12, 0, none⟩, β 13), .inr ⟨_, rfl⟩⟩, ⟨(none, 0), .inl rfl⟩)), trivial, ⟨⟨_, rfl, rfl⟩, ⟨_, rfl, rfl⟩, ⟨_, rfl, rfl⟩, ⟨_, rfl, rfl⟩, ⟨_, rfl, rfl⟩, ⟨_, rfl, rfl⟩, ⟨_, rfl, rfl⟩, ⟨_, rfl, rfl⟩, ⟨_, rfl, by rw [← hHn]; rfl⟩, ⟨_, rfl, rfl⟩, trivial⟩, ⟨⟨rfl, _, _, _, rfl, rfl, rfl⟩, ⟨rfl, _, _, _, rfl, rfl, rfl⟩, trivial⟩, fun w2 h2 hb2 => ⟨h2.1.1.1, h2.1.1.2, h2.1.2, h2.2.1, h2.2.2, Rd.of_owns (sz := 1) (f := iF) (fun _ => rfl) rfl hPn.symm (by rw [← hPn]; exact hb2 12 (by simp) _ rfl), by rw [← hHn]; exact .inl ⟨rfl, rfl⟩⟩⟩⟩
    | cons g0 HG =>
      skip
      repeat'
       conv => whnf
       first
        | refine zA ?_ | refine zB ?_ | refine zC ?_ | refine zD ?_ | refine zE ?_ | refine zF ?_ | refine zG ?_ | refine zH ?_ | refine zI ?_ | refine splT ?_ | refine splF ?_ | refine splNot ?_
        | ((first | refine splIn (fun hc => ?_) (fun hc => ?_) | refine splD (fun hc => ?_) (fun hc => ?_) | refine splE (fun hc => ?_) (fun hc => ?_) | refine splNE (fun hc => ?_) (fun hc => ?_)) <;> first | (exfalso; omega) | (exfalso; dsimp only at hc; omega) | skip)
        | ((with_reducible show CallEv _ _ 38 _ _ _ _ _); refine callF [] (fun z : YS RP × YS RH => .tuple #[sV PP.length z.1.1, sV BB.length z.2.1, iv 0]) (fun z w2 => Rd 2 gF (sV PP.length z.1.1) RP w2 ∧ Rd 4 f4 (sV BB.length z.2.1) RH w2) (fun β w' _ hbw => h38 w' hbw.1.2) ?_; intro z)
        | ((with_reducible show CallEv _ _ 31 _ _ _ _ _); refine callO 10 [] (.os 10 11 A.length) A.length 1 (A.flatMap iF) 3 rfl (fun β w' _ hbw => (h31 w' hbw.1.2).mono fun _ _ ⟨b, c, h1, h2, h3, h4⟩ => ⟨b, c, h1, h2, h3, h4⟩) ?_)
        | ((with_reducible show CallEv _ _ 29 _ _ _ _ _); refine callR [12, 13, 14, 15] [10] (brM 12 PT (g0 :: HG)) (brS 12 PP.length (g0 :: HG)) rfl (fun i b hi => by simp [brM, oM] at hi; rcases hi with ⟨rfl, _⟩ | ⟨rfl, _⟩ <;> decide) (fun β w' hbk hbw => (hBo (some ⟨β 10, 0, none⟩) (β 11) w' hbw.1.1.2 (Rd.of_owns (sz := 1) (f := iF) (fun _ => rfl) rfl rfl (hbk 10 (by simp) _ rfl))).mono fun e w2 h => mv_gen (nb := 12) (k := 4) rfl (br_V 12 _ _) (br_m 12 _ _) h) ?_)
      exact ⟨rfl, Dis.mk [12, 14] (fun i hi => by simp at hi; rcases hi with rfl | rfl <;> exact ⟨_, rfl, rfl⟩) fun β w1 hb hw => ⟨(z, (⟨(some ⟨β 12, 0, none⟩, β 13), .inr ⟨_, rfl⟩⟩, ⟨(some ⟨β 14, 0, none⟩, β 15), .inr ⟨_, rfl⟩⟩)), trivial, ⟨⟨_, rfl, rfl⟩, ⟨_, rfl, rfl⟩, ⟨_, rfl, rfl⟩, ⟨_, rfl, rfl⟩, ⟨_, rfl, rfl⟩, ⟨_, rfl, rfl⟩, ⟨_, rfl, rfl⟩, ⟨_, rfl, rfl⟩, ⟨_, rfl, by rw [← hHn]; rfl⟩, ⟨_, rfl, rfl⟩, trivial⟩, ⟨⟨rfl, _, _, _, rfl, rfl, rfl⟩, ⟨rfl, _, _, _, rfl, rfl, rfl⟩, trivial⟩, fun w2 h2 hb2 => ⟨h2.1.1.1, h2.1.1.2, h2.1.2, h2.2.1, h2.2.2, Rd.of_owns (sz := 1) (f := iF) (fun _ => rfl) rfl hPn.symm (by rw [← hPn]; exact hb2 12 (by simp) _ rfl), Rd.of_owns (sz := 2) (f := gF) (fun _ => rfl) rfl hHn.symm (by rw [← hHn]; exact hb2 14 (by simp) _ rfl)⟩⟩⟩

set_option maxHeartbeats 16000000 in
set_option maxRecDepth 100000 in
theorem RiggingEncloses_ok (r : Rig) (PP : List Int) (BB : List Bm) (LL : List Ld) (U : List Int) (uo : Option Addr) (uc : Nat) (wh : Int) (w : World) (hX : RigX r PP BB LL w) (hU : Rd 1 uF (.slice uo U.length uc) U w) (hul : U.length ≤ 9223372036854775807) (hu : ∀ n ∈ U, 0 ≤ n ∧ n ≤ 4294967295) (hwh : 0 ≤ wh ∧ wh ≤ 255) :
    Calls Try.prog 10 #[r.v, .slice uo U.length uc, .int .u8 wh] w fun e w' => e = .returned (.bool true) ∧ Below w.heap.size w w' := by
  have h27 := fun (w' : World) (hb : Below w.heap.size w w') => Right_ok r PP BB LL w' (hX.below hb)
  cases hr : rigOk r.f0 r.f1 r.f2 PP BB LL with
  | false =>
    rw [hr] at h27
    obtain ⟨po, pn, pc, bo, bn, bc, f0, f1, f2, lo, ln, lc⟩ := r
    refine calls_val env mixed Try.func10 has10 Try.ntmps10 [.agg #[.slice po pn pc, .slice bo bn bc, iv f0, iv f1, iv f2, .slice lo ln lc], .slice uo U.length uc, .int .u8 wh] (by simp) ?_
    repeat'
     conv => whnf
     first
      | refine zA ?_ | refine zB ?_ | refine zC ?_ | refine zD ?_ | refine zE ?_ | refine zF ?_ | refine zG ?_ | refine zH ?_ | refine zI ?_ | refine splT ?_ | refine splF ?_ | refine splNot ?_
      | ((first | refine splIn (fun hc => ?_) (fun hc => ?_) | refine splD (fun hc => ?_) (fun hc => ?_) | refine splE (fun hc => ?_) (fun hc => ?_) | refine splNE (fun hc => ?_) (fun hc => ?_)) <;> first | (exfalso; omega) | (exfalso; dsimp only at hc; omega) | skip)
      | ((with_reducible show CallEv _ _ 27 _ _ _ _ _); refine callE (k := 27) (fun β w' hbw => h27 _ hbw) ?_)
      | ((with_reducible show CallEv _ _ 16 _ _ _ _ _); refine callE (k := 16) (fun β w' hbw => awake_ok _) ?_)
    all_goals first | (exfalso; omega) | exact ⟨fun β => rfl, fun w' h => h⟩
  | true =>
  rw [hr] at h27
  have hri := rigOk_iff.1 hr
  have hm12 := hri.2.2.1
  have hl20 := hri.2.2.2.2.1
  have hP1 := hri.1.1
  have hin := hX.rin (by omega) (by omega) (by omega)
  have h28 := fun (w' : World) (hb : Below w.heap.size w w') (hne : LL ≠ []) => drawn_own r PP BB LL U uo uc w' (hin.below hb) hr (hU.below hb) hul hu hne
  have hA := drL_pul hr U
  have hlA := drL_len r LL U
  generalize drL r LL U = A at *
  have hfin := fun (y : (Option Addr × Nat) × (Option Addr × Nat) × (Option Addr × Nat)) (ya : Option Addr × Nat) => EncB r.po r.bo r.lo r.pn r.pc r.bn r.bc r.ln r.lc r.f0 r.f1 r.f2 PP BB LL A w hX hr hA wh hwh y ya
  have hln0 : LL.length = 0 → r.ln = 0 := fun h => by rw [hX.ln, h]
  obtain ⟨po, pn, pc, bo, bn, bc, f0, f1, f2, lo, ln, lc⟩ := r
  dsimp only at hfin hln0
  refine calls_valV env mixed Try.func10 has10 Try.ntmps10 [.agg #[.slice po pn pc, .slice bo bn bc, iv f0, iv f1, iv f2, .slice lo ln lc], .slice uo U.length uc, .int .u8 wh] (by simp) ?_
  refine VC.cutD env mixed 3 10 (fun x : ((Option Addr × Nat) × (Option Addr × Nat) × (Option Addr × Nat)) × (Option Addr × Nat) => [(2, .v (.int .u8 wh)), (3, .ptr 0 0), (7, .ptr 9 0), (8, .v (sV A.length x.2))])
    (fun x => [(0, .cells [.v (.slice po pn pc), .v (.slice bo bn bc), .v (iv f0), .v (iv f1), .v (iv f2), .v (.slice lo ln lc)] 48), (9, .cells [.v (sV PP.length x.1.1), .v (sV BB.length x.1.2.1), .v (iv f0), .v (iv f1), .v (iv f2), .v (sV LL.length x.1.2.2)] 58)]) (fun x w2 => (Below w.heap.size w w2 ∧ nrH PP BB LL x.1 w2) ∧ Rd 1 iF (sV A.length x.2) A w2) (fun _ => True) (fun _ _ => ⟨rfl, rfl⟩) ?_ (fun x _ => hfin x.1 x.2)
  cases PP with
  | nil => simp at hP1
  | cons p0 PP =>
    cases BB with
    | nil =>
      cases LL with
      | nil =>
        skip
        repeat'
         conv => whnf
         first
          | refine zA ?_ | refine zB ?_ | refine zC ?_ | refine zD ?_ | refine zE ?_ | refine zF ?_ | refine zG ?_ | refine zH ?_ | refine zI ?_ | refine splT ?_ | refine splF ?_ | refine splNot ?_
          | ((first | refine splIn (fun hc => ?_) (fun hc => ?_) | refine splD (fun hc => ?_) (fun hc => ?_) | refine splE (fun hc => ?_) (fun hc => ?_) | refine splNE (fun hc => ?_) (fun hc => ?_)) <;> first | (exfalso; omega) | (exfalso; dsimp only at hc; omega) | skip)
          | ((with_reducible show CallEv _ _ 27 _ _ _ _ _); refine callE (k := 27) (fun β w' hbw => h27 _ hbw) ?_)
          | ((with_reducible show CallEv _ _ 30 _ _ _ _ _); refine callR [1, 2, 3, 4, 5, 6] [] (rigM 1 (p0 :: PP) ([] : List Bm) ([] : List Ld)) (rigS 1 (PP.length + 1) ([] : List Bm) ([] : List Ld) f0 f1 f2) rfl (fun i b hi => by rcases rigM_mem hi with ⟨rfl, _⟩ | ⟨rfl, _⟩ | ⟨rfl, _⟩ <;> decide) (fun β w' _ hbw => (Rig_own ⟨po, pn, pc, bo, bn, bc, f0, f1, f2, lo, ln, lc⟩ p0 PP ([] : List Bm) ([] : List Ld) w' (hin.below hbw) (by omega) (by omega)).mono fun e w2 h => rig_mv h) ?_)
          | ((with_reducible show CallEv _ _ 28 _ _ _ _ _); refine callR [7, 8] [] [] (.v (.slice none 0 0)) rfl (fun i b hi => by cases hi) (fun β w' _ hbw => (drawn_nil ⟨po, pn, pc, bo, bn, bc, f0, f1, f2, lo, ln, lc⟩ uo U.length uc w' (hln0 rfl)).mono fun e w2 h => ⟨β, h.1, fun _ _ => rfl, h.2, fun i b hi => (by cases hi), fun i b j b' hi => (by cases hi)⟩) ?_)
        all_goals first | (exfalso; omega) | skip
        refine ⟨rfl, Dis.mk [1] (fun i hi => by simp at hi; subst hi <;> exact ⟨_, rfl, rfl⟩) fun β w1 hb hw => ⟨(((some ⟨β 1, 0, none⟩, β 2), (none, 0), (none, 0)), (none, 0)), trivial, ⟨⟨_, rfl, rfl⟩, ⟨_, rfl, rfl⟩, ⟨_, rfl, rfl⟩, ⟨_, rfl, by rw [hlA]; rfl⟩, trivial⟩, ⟨⟨rfl, _, _, _, rfl, rfl, rfl⟩, ⟨rfl, _, _, _, rfl, rfl, rfl⟩, trivial⟩, fun w2 h2 hb2 => ⟨⟨h2, Rd.of_owns (sz := 1) (f := iF) (fun _ => rfl) rfl rfl (hb2 1 (by simp) _ rfl), .inl ⟨rfl, rfl⟩, .inl ⟨rfl, rfl⟩⟩, (by have hA0 : A = [] := List.eq_nil_of_length_eq_zero hlA; subst hA0; exact .inl ⟨rfl, rfl⟩)⟩⟩⟩
      | cons l0 LL =>
        skip
        repeat'
         conv => whnf
         first
          | refine zA ?_ | refine zB ?_ | refine zC ?_ | refine zD ?_ | refine zE ?_ | refine zF ?_ | refine zG ?_ | refine zH ?_ | refine zI ?_ | refine splT ?_ | refine splF ?_ | refine splNot ?_
          | ((first | refine splIn (fun hc => ?_) (fun hc => ?_) | refine splD (fun hc => ?_) (fun hc => ?_) | refine splE (fun hc => ?_) (fun hc => ?_) | refine splNE (fun hc => ?_) (fun hc => ?_)) <;> first | (exfalso; omega) | (exfalso; dsimp only at hc; omega) | skip)
          | ((with_reducible show CallEv _ _ 27 _ _ _ _ _); refine callE (k := 27) (fun β w' hbw => h27 _ hbw) ?_)
          | ((with_reducible show CallEv _ _ 30 _ _ _ _ _); refine callR [1, 2, 3, 4, 5, 6] [] (rigM 1 (p0 :: PP) ([] : List Bm) (l0 :: LL)) (rigS 1 (PP.length + 1) ([] : List Bm) (l0 :: LL) f0 f1 f2) rfl (fun i b hi => by rcases rigM_mem hi with ⟨rfl, _⟩ | ⟨rfl, _⟩ | ⟨rfl, _⟩ <;> decide) (fun β w' _ hbw => (Rig_own ⟨po, pn, pc, bo, bn, bc, f0, f1, f2, lo, ln, lc⟩ p0 PP ([] : List Bm) (l0 :: LL) w' (hin.below hbw) (by omega) (by omega)).mono fun e w2 h => rig_mv h) ?_)
          | ((with_reducible show CallEv _ _ 28 _ _ _ _ _); refine callO 7 [] (.os 7 8 (l0 :: LL).length) (l0 :: LL).length 1 (A.flatMap iF) 3 rfl (fun β w' _ hbw => (h28 w' hbw (by simp)).mono fun _ _ ⟨b, c, h1, h2, h3, h4⟩ => ⟨b, c, h1, h2, h3, h4⟩) ?_)
        all_goals first | (exfalso; omega) | skip
        refine ⟨rfl, Dis.mk [1, 5, 7] (fun i hi => by simp at hi; rcases hi with rfl | rfl | rfl <;> exact ⟨_, rfl, rfl⟩) fun β w1 hb hw => ⟨(((some ⟨β 1, 0, none⟩, β 2), (none, 0), (some ⟨β 5, 0, none⟩, β 6)), (some ⟨β 7, 0, none⟩, β 8)), trivial, ⟨⟨_, rfl, rfl⟩, ⟨_, rfl, rfl⟩, ⟨_, rfl, rfl⟩, ⟨_, rfl, by rw [hlA]; rfl⟩, trivial⟩, ⟨⟨rfl, _, _, _, rfl, rfl, rfl⟩, ⟨rfl, _, _, _, rfl, rfl, rfl⟩, trivial⟩, fun w2 h2 hb2 => ⟨⟨h2, Rd.of_owns (sz := 1) (f := iF) (fun _ => rfl) rfl rfl (hb2 1 (by simp) _ rfl), .inl ⟨rfl, rfl⟩, Rd.of_owns (sz := 5) (f := Ld.cs) (fun _ => rfl) rfl rfl (hb2 5 (by simp) _ rfl)⟩, Rd.of_owns (sz := 1) (f := iF) (fun _ => rfl) rfl rfl (by rw [hlA]; exact hb2 7 (by simp) _ rfl)⟩⟩⟩
    | cons b0 BB =>
      cases LL with
      | nil =>
        skip
        repeat'
         conv => whnf
         first
          | refine zA ?_ | refine zB ?_ | refine zC ?_ | refine zD ?_ | refine zE ?_ | refine zF ?_ | refine zG ?_ | refine zH ?_ | refine zI ?_ | refine splT ?_ | refine splF ?_ | refine splNot ?_
          | ((first | refine splIn (fun hc => ?_) (fun hc => ?_) | refine splD (fun hc => ?_) (fun hc => ?_) | refine splE (fun hc => ?_) (fun hc => ?_) | refine splNE (fun hc => ?_) (fun hc => ?_)) <;> first | (exfalso; omega) | (exfalso; dsimp only at hc; omega) | skip)
          | ((with_reducible show CallEv _ _ 27 _ _ _ _ _); refine callE (k := 27) (fun β w' hbw => h27 _ hbw) ?_)
          | ((with_reducible show CallEv _ _ 30 _ _ _ _ _); refine callR [1, 2, 3, 4, 5, 6] [] (rigM 1 (p0 :: PP) (b0 :: BB) ([] : List Ld)) (rigS 1 (PP.length + 1) (b0 :: BB) ([] : List Ld) f0 f1 f2) rfl (fun i b hi => by rcases rigM_mem hi with ⟨rfl, _⟩ | ⟨rfl, _⟩ | ⟨rfl, _⟩ <;> decide) (fun β w' _ hbw => (Rig_own ⟨po, pn, pc, bo, bn, bc, f0, f1, f2, lo, ln, lc⟩ p0 PP (b0 :: BB) ([] : List Ld) w' (hin.below hbw) (by omega) (by omega)).mono fun e w2 h => rig_mv h) ?_)
          | ((with_reducible show CallEv _ _ 28 _ _ _ _ _); refine callR [7, 8] [] [] (.v (.slice none 0 0)) rfl (fun i b hi => by cases hi) (fun β w' _ hbw => (drawn_nil ⟨po, pn, pc, bo, bn, bc, f0, f1, f2, lo, ln, lc⟩ uo U.length uc w' (hln0 rfl)).mono fun e w2 h => ⟨β, h.1, fun _ _ => rfl, h.2, fun i b hi => (by cases hi), fun i b j b' hi => (by cases hi)⟩) ?_)
        all_goals first | (exfalso; omega) | skip
        refine ⟨rfl, Dis.mk [1, 3] (fun i hi => by simp at hi; rcases hi with rfl | rfl <;> exact ⟨_, rfl, rfl⟩) fun β w1 hb hw => ⟨(((some ⟨β 1, 0, none⟩, β 2), (some ⟨β 3, 0, none⟩, β 4), (none, 0)), (none, 0)), trivial, ⟨⟨_, rfl, rfl⟩, ⟨_, rfl, rfl⟩, ⟨_, rfl, rfl⟩, ⟨_, rfl, by rw [hlA]; rfl⟩, trivial⟩, ⟨⟨rfl, _, _, _, rfl, rfl, rfl⟩, ⟨rfl, _, _, _, rfl, rfl, rfl⟩, trivial⟩, fun w2 h2 hb2 => ⟨⟨h2, Rd.of_owns (sz := 1) (f := iF) (fun _ => rfl) rfl rfl (hb2 1 (by simp) _ rfl), Rd.of_owns (sz := 8) (f := Bm.cs) (fun _ => rfl) rfl rfl (hb2 3 (by simp) _ rfl), .inl ⟨rfl, rfl⟩⟩, (by have hA0 : A = [] := List.eq_nil_of_length_eq_zero hlA; subst hA0; exact .inl ⟨rfl, rfl⟩)⟩⟩⟩
      | cons l0 LL =>
        skip
        repeat'
         conv => whnf
         first
          | refine zA ?_ | refine zB ?_ | refine zC ?_ | refine zD ?_ | refine zE ?_ | refine zF ?_ | refine zG ?_ | refine zH ?_ | refine zI ?_ | refine splT ?_ | refine splF ?_ | refine splNot ?_
          | ((first | refine splIn (fun hc => ?_) (fun hc => ?_) | refine splD (fun hc => ?_) (fun hc => ?_) | refine splE (fun hc => ?_) (fun hc => ?_) | refine splNE (fun hc => ?_) (fun hc => ?_)) <;> first | (exfalso; omega) | (exfalso; dsimp only at hc; omega) | skip)
          | ((with_reducible show CallEv _ _ 27 _ _ _ _ _); refine callE (k := 27) (fun β w' hbw => h27 _ hbw) ?_)
          | ((with_reducible show CallEv _ _ 30 _ _ _ _ _); refine callR [1, 2, 3, 4, 5, 6] [] (rigM 1 (p0 :: PP) (b0 :: BB) (l0 :: LL)) (rigS 1 (PP.length + 1) (b0 :: BB) (l0 :: LL) f0 f1 f2) rfl (fun i b hi => by rcases rigM_mem hi with ⟨rfl, _⟩ | ⟨rfl, _⟩ | ⟨rfl, _⟩ <;> decide) (fun β w' _ hbw => (Rig_own ⟨po, pn, pc, bo, bn, bc, f0, f1, f2, lo, ln, lc⟩ p0 PP (b0 :: BB) (l0 :: LL) w' (hin.below hbw) (by omega) (by omega)).mono fun e w2 h => rig_mv h) ?_)
          | ((with_reducible show CallEv _ _ 28 _ _ _ _ _); refine callO 7 [] (.os 7 8 (l0 :: LL).length) (l0 :: LL).length 1 (A.flatMap iF) 3 rfl (fun β w' _ hbw => (h28 w' hbw (by simp)).mono fun _ _ ⟨b, c, h1, h2, h3, h4⟩ => ⟨b, c, h1, h2, h3, h4⟩) ?_)
        all_goals first | (exfalso; omega) | skip
        refine ⟨rfl, Dis.mk [1, 3, 5, 7] (fun i hi => by simp at hi; rcases hi with rfl | rfl | rfl | rfl <;> exact ⟨_, rfl, rfl⟩) fun β w1 hb hw => ⟨(((some ⟨β 1, 0, none⟩, β 2), (some ⟨β 3, 0, none⟩, β 4), (some ⟨β 5, 0, none⟩, β 6)), (some ⟨β 7, 0, none⟩, β 8)), trivial, ⟨⟨_, rfl, rfl⟩, ⟨_, rfl, rfl⟩, ⟨_, rfl, rfl⟩, ⟨_, rfl, by rw [hlA]; rfl⟩, trivial⟩, ⟨⟨rfl, _, _, _, rfl, rfl, rfl⟩, ⟨rfl, _, _, _, rfl, rfl, rfl⟩, trivial⟩, fun w2 h2 hb2 => ⟨⟨h2, Rd.of_owns (sz := 1) (f := iF) (fun _ => rfl) rfl rfl (hb2 1 (by simp) _ rfl), Rd.of_owns (sz := 8) (f := Bm.cs) (fun _ => rfl) rfl rfl (hb2 3 (by simp) _ rfl), Rd.of_owns (sz := 5) (f := Ld.cs) (fun _ => rfl) rfl rfl (hb2 5 (by simp) _ rfl)⟩, Rd.of_owns (sz := 1) (f := iF) (fun _ => rfl) rfl rfl (by rw [hlA]; exact hb2 7 (by simp) _ rfl)⟩⟩⟩
end Go.Proofs.Ytaciigegbgnadaa
