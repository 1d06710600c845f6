/- The reference: Safe, Room: the same search by halves. -/
import Derived.Test.YtaciigegbgnadaaJO
namespace Go.Proofs.Ytaciigegbgnadaa
open Go Tx Go.RowKit
set_option linter.unusedSimpArgs false
set_option linter.unusedVariables false

theorem sfB_eq (r : Rig) (PP : List Int) (BB : List Bm) (LL : List Ld) (b a : Int) (kd : Nat) (n : Int) (lm : Ld) (h : (⟨b, a, kd, 0, n⟩ : Ld) = lm) : sfB r PP BB LL b a kd n = ((ovO r PP BB (LL ++ [lm]) (frF BB (LL ++ [lm]))).isNone && (slO r BB (LL ++ [lm]) (frF BB (LL ++ [lm]))).isNone) := by
  subst h
  unfold sfB sfW
  rfl
set_option maxHeartbeats 8000000 in
set_option maxRecDepth 100000 in
theorem SafeR_ok (r : Rig) (PP : List Int) (BB : List Bm) (LL : List Ld) (b a : Int) (kd : Nat) (n : Int) (w : World) (hX : RigX r PP BB LL w) (hr : rigOk r.f0 r.f1 r.f2 PP BB LL = true) (hh : hasB PP.length b a BB.length = true) (hk : kd ≤ 2) (hn : 0 ≤ n ∧ n ≤ 1000000) (hl : LL.length < 20) :
    Calls Try.prog 52 #[r.v, .agg #[iv b, iv a, .int .u8 kd, iv 0, iv n]] w fun e w' => e = .returned (.bool (sfB r PP BB LL b a kd n)) ∧ Below w.heap.size w w' := by
  have hri := rigOk_iff.1 hr
  have hr2 := rigOk_more hr hh hk hn hl
  obtain ⟨lm, hlm⟩ : ∃ lm : Ld, (⟨b, a, kd, 0, n⟩ : Ld) = lm := ⟨_, rfl⟩
  rw [sfB_eq r PP BB LL b a kd n lm hlm]
  have hfx : ∀ L : List Ld, L.flatMap Ld.cs ++ [iv b, iv a, .int .u8 kd, iv 0, iv n] = (L ++ [lm]).flatMap Ld.cs := fun L => by rw [← hlm, List.flatMap_append]; simp
  have hfn : [iv b, iv a, .int .u8 kd, iv 0, iv n] = ([lm] : List Ld).flatMap Ld.cs := by rw [← hlm]; simp
  have hbd : I64 b ∧ I64 a := by
    have := hasB_cases hh
    have h12 := hri.1
    have hm12 := hri.2.2.1
    unfold I64
    omega
  have hlI : ldI lm := by rw [← hlm]; exact ⟨hbd.1, hbd.2, by show kd ≤ 255; omega, by unfold I64; show _ ≤ (0 : Int) ∧ (0 : Int) ≤ _; omega, by unfold I64; show _ ≤ n ∧ n ≤ _; omega⟩
  rw [hlm] at hr2
  have hll : (LL ++ [lm]).length = LL.length + 1 := by simp
  have hP := hX.p
  have hB := hX.b
  have hL := hX.l
  have hpn := hX.pn
  have hbn := hX.bn
  have hln := hX.ln
  have hXin := fun (x1 : Option Addr) (x2 : Nat) (w' : World) (hb : Below w.heap.size w w') (hx : Rd 5 Ld.cs (sV (LL.length + 1) (x1, x2)) (LL ++ [lm]) w') => (⟨hP.below hb, hB.below hb, by rw [hll]; exact hx, hpn, hbn, hll.symm, hX.pl, hX.bl, by omega, hX.pi, hX.bi, fun l hl => by
    rcases List.mem_append.1 hl with h | h
    · exact hX.li l h
    · rw [List.mem_singleton] at h; rw [h]; exact hlI, hX.f0, hX.f1, hX.f2⟩ : RigX ⟨r.po, r.pn, r.pc, r.bo, r.bn, r.bc, r.f0, r.f1, r.f2, x1, LL.length + 1, x2⟩ PP BB (LL ++ [lm]) w')
  obtain ⟨po, pn, pc, bo, bn, bc, f0, f1, f2, lo, ln, lc⟩ := r
  dsimp only at hXin hP hB hL hpn hbn hln hr2
  subst hln
  refine calls_valV env mixed Try.func52 has52 Try.ntmps52 [.agg #[.slice po pn pc, .slice bo bn bc, iv f0, iv f1, iv f2, .slice lo LL.length lc], .agg #[iv b, iv a, .int .u8 kd, iv 0, iv n]] (by simp) ?_
  refine VC.cutD env mixed 3 3 (fun x : Option Addr × Nat => [(5, .ptr 2 0)]) (fun x => [(2, .cells [.v (.slice po pn pc), .v (.slice bo bn bc), .v (iv f0), .v (iv f1), .v (iv f2), .v (sV (LL.length + 1) x)] 48)])
    (fun x w2 => Below w.heap.size w w2 ∧ Rd 5 Ld.cs (sV (LL.length + 1) x) (LL ++ [lm]) w2) (fun _ => True) (fun _ _ => ⟨rfl, rfl⟩) ?_ ?_
  · by_cases hne : LL = []
    · subst hne
      rcases hL with ⟨h0, _⟩ | ⟨ad, c, h0, _⟩
      · simp only [List.length_nil, Value.slice.injEq] at h0
        obtain ⟨rfl, _, rfl⟩ := h0
        repeat'
         conv => whnf
         first
          | refine zA ?_ | refine zB ?_ | refine zC ?_ | refine zD ?_ | refine zE ?_ | refine zF ?_ | refine zG ?_ | refine zH ?_ | refine zJ ?_ | refine zI ?_ | refine splT ?_ | refine splF ?_ | refine splNot ?_
          | ((first | refine splIn (fun hc => ?_) (fun hc => ?_) | refine splD (fun hc => ?_) (fun hc => ?_) | refine splE (fun hc => ?_) (fun hc => ?_) | refine splNE (fun hc => ?_) (fun hc => ?_)) <;> first | (exfalso; omega) | (exfalso; dsimp only at hc; omega) | skip)
        exact ⟨rfl, Dis.mk [4] (fun i hi => by simp at hi; subst hi; exact ⟨_, rfl, rfl⟩) fun β w1 hb hw => ⟨(some ⟨β 4, 0, none⟩, β 5), trivial, ⟨⟨_, rfl, rfl⟩, trivial⟩, ⟨⟨rfl, _, _, _, rfl, rfl, rfl⟩, trivial⟩, fun w2 h2 hb2 => ⟨h2, Rd.of_owns (sz := 5) (f := Ld.cs) (fun _ => rfl) hfn hll.symm (hb2 4 (by simp) _ rfl)⟩⟩⟩
      · simp only [List.length_nil, Value.slice.injEq] at h0
        obtain ⟨rfl, _, rfl⟩ := h0
        repeat'
         conv => whnf
         first
          | refine zA ?_ | refine zB ?_ | refine zC ?_ | refine zD ?_ | refine zE ?_ | refine zF ?_ | refine zG ?_ | refine zH ?_ | refine zJ ?_ | refine zI ?_ | refine splT ?_ | refine splF ?_ | refine splNot ?_
          | ((first | refine splIn (fun hc => ?_) (fun hc => ?_) | refine splD (fun hc => ?_) (fun hc => ?_) | refine splE (fun hc => ?_) (fun hc => ?_) | refine splNE (fun hc => ?_) (fun hc => ?_)) <;> first | (exfalso; omega) | (exfalso; dsimp only at hc; omega) | skip)
          | refine Exists.intro (α := List Value) [] ⟨⟨rfl, fun w' hw' j v hj => (by simp at hj), fun v hv => (by cases hv)⟩, ?_⟩
        exact ⟨rfl, Dis.mk [4] (fun i hi => by simp at hi; subst hi; exact ⟨_, rfl, rfl⟩) fun β w1 hb hw => ⟨(some ⟨β 4, 0, none⟩, β 5), trivial, ⟨⟨_, rfl, rfl⟩, trivial⟩, ⟨⟨rfl, _, _, _, rfl, rfl, rfl⟩, trivial⟩, fun w2 h2 hb2 => ⟨h2, Rd.of_owns (sz := 5) (f := Ld.cs) (fun _ => rfl) hfn hll.symm (hb2 4 (by simp) _ rfl)⟩⟩⟩
    · have hp : 1 ≤ LL.length := by cases LL with | nil => exact absurd rfl hne | cons a A => simp
      obtain ⟨_, ad, rfl, _⟩ := hL.ptr hp
      have he := fun (w' : World) (hb : Below w.heap.size w w') => Rd.ext (f := Ld.cs) (sz := 5) (fun _ => rfl) (hL.below hb)
      repeat'
       conv => whnf
       first
        | refine zA ?_ | refine zB ?_ | refine zC ?_ | refine zD ?_ | refine zE ?_ | refine zF ?_ | refine zG ?_ | refine zH ?_ | refine zJ ?_ | refine zI ?_ | refine splT ?_ | refine splF ?_ | refine splNot ?_
        | ((first | refine splIn (fun hc => ?_) (fun hc => ?_) | refine splD (fun hc => ?_) (fun hc => ?_) | refine splE (fun hc => ?_) (fun hc => ?_) | refine splNE (fun hc => ?_) (fun hc => ?_)) <;> first | (exfalso; omega) | (exfalso; dsimp only at hc; omega) | skip)
        | refine Exists.intro (α := List Value) (LL.flatMap Ld.cs) ⟨⟨len5 LL, fun w' hw' => he w' hw', one5 LL⟩, ?_⟩
      exact ⟨rfl, Dis.mk [6] (fun i hi => by simp at hi; subst hi; exact ⟨_, rfl, rfl⟩) fun β w1 hb hw => ⟨(some ⟨β 6, 0, none⟩, β 7), trivial, ⟨⟨_, rfl, rfl⟩, trivial⟩, ⟨⟨rfl, _, _, _, rfl, rfl, by simp only [Nat.zero_add]; rfl⟩, trivial⟩, fun w2 h2 hb2 => ⟨h2, by have h9 := hb2 6 (by simp) _ rfl; simp only [Blk.ok, Nat.zero_add, List.nil_append] at h9; exact Rd.of_owns (sz := 5) (f := Ld.cs) (fun _ => rfl) (hfx LL) hll.symm h9⟩⟩⟩
  · rintro ⟨x1, x2⟩ _
    have h43 := fun (w' : World) hb hx => OverR_ok _ PP BB (LL ++ [lm]) w' (hXin x1 x2 w' hb hx) hr2
    have h44 := fun (w' : World) hb hx => SlackR_ok _ PP BB (LL ++ [lm]) w' (hXin x1 x2 w' hb hx) hr2
    rw [ovO_fac (r := ⟨po, pn, pc, bo, bn, bc, f0, f1, f2, lo, LL.length, lc⟩) (r' := ⟨po, pn, pc, bo, bn, bc, f0, f1, f2, x1, LL.length + 1, x2⟩) (fun k => rfl), slO_fac (r := ⟨po, pn, pc, bo, bn, bc, f0, f1, f2, lo, LL.length, lc⟩) (r' := ⟨po, pn, pc, bo, bn, bc, f0, f1, f2, x1, LL.length + 1, x2⟩) (fun k => rfl)]
    generalize ovO ⟨po, pn, pc, bo, bn, bc, f0, f1, f2, x1, LL.length + 1, x2⟩ PP BB (LL ++ [lm]) (frF BB (LL ++ [lm])) = W1 at *
    generalize slO ⟨po, pn, pc, bo, bn, bc, f0, f1, f2, x1, LL.length + 1, x2⟩ BB (LL ++ [lm]) (frF BB (LL ++ [lm])) = W2 at *
    generalize Wk.pl ⟨po, pn, pc, bo, bn, bc, f0, f1, f2, x1, LL.length + 1, x2⟩ (LL ++ [lm]) true W1 = P1 at *
    generalize Wk.pl ⟨po, pn, pc, bo, bn, bc, f0, f1, f2, x1, LL.length + 1, x2⟩ (LL ++ [lm]) false W2 = P2 at *
    generalize Wk.b W1 = B1 at *
    generalize Wk.a W1 = A1 at *
    generalize Wk.b W2 = B2 at *
    generalize Wk.a W2 = A2 at *
    refine VC.of env mixed ?_
    rcases W1 with _ | q1 <;> rcases W2 with _ | q2
    · dsimp only [Option.isSome] at h43 h44
      repeat'
       conv => whnf
       first
        | refine zA ?_ | refine zB ?_ | refine zC ?_ | refine zD ?_ | refine zE ?_ | refine zF ?_ | refine zG ?_ | refine zH ?_ | refine zJ ?_ | refine zI ?_ | refine splT ?_ | refine splF ?_ | refine splNot ?_
        | ((first | refine splIn (fun hc => ?_) (fun hc => ?_) | refine splD (fun hc => ?_) (fun hc => ?_) | refine splE (fun hc => ?_) (fun hc => ?_) | refine splNE (fun hc => ?_) (fun hc => ?_)) <;> first | (exfalso; omega) | (exfalso; dsimp only at hc; omega) | skip)
        | ((with_reducible show CallEv _ _ 43 _ _ _ _ _); refine callF [] (fun z : Option Addr × Nat => .tuple #[.agg #[iv B1, iv A1], sV P1.length z, .bool false]) (fun z => Rd 1 iF (sV P1.length z) P1) (fun β w' _ hbw => h43 w' hbw.1 hbw.2) ?_; intro z; obtain ⟨z1, z2⟩ := z; dsimp only)
        | ((with_reducible show CallEv _ _ 44 _ _ _ _ _); refine callF [] (fun z : Option Addr × Nat => .tuple #[.agg #[iv B2, iv A2], sV P2.length z, .bool false]) (fun z => Rd 1 iF (sV P2.length z) P2) (fun β w' _ hbw => h44 w' hbw.1.1 hbw.1.2) ?_; intro z; obtain ⟨y1, y2⟩ := z; dsimp only)
      all_goals first | (exfalso; omega) | exact ⟨fun β => rfl, fun w' h => h.1.1.1⟩
    · dsimp only [Option.isSome] at h43 h44
      repeat'
       conv => whnf
       first
        | refine zA ?_ | refine zB ?_ | refine zC ?_ | refine zD ?_ | refine zE ?_ | refine zF ?_ | refine zG ?_ | refine zH ?_ | refine zJ ?_ | refine zI ?_ | refine splT ?_ | refine splF ?_ | refine splNot ?_
        | ((first | refine splIn (fun hc => ?_) (fun hc => ?_) | refine splD (fun hc => ?_) (fun hc => ?_) | refine splE (fun hc => ?_) (fun hc => ?_) | refine splNE (fun hc => ?_) (fun hc => ?_)) <;> first | (exfalso; omega) | (exfalso; dsimp only at hc; omega) | skip)
        | ((with_reducible show CallEv _ _ 43 _ _ _ _ _); refine callF [] (fun z : Option Addr × Nat => .tuple #[.agg #[iv B1, iv A1], sV P1.length z, .bool false]) (fun z => Rd 1 iF (sV P1.length z) P1) (fun β w' _ hbw => h43 w' hbw.1 hbw.2) ?_; intro z; obtain ⟨z1, z2⟩ := z; dsimp only)
        | ((with_reducible show CallEv _ _ 44 _ _ _ _ _); refine callF [] (fun z : Option Addr × Nat => .tuple #[.agg #[iv B2, iv A2], sV P2.length z, .bool true]) (fun z => Rd 1 iF (sV P2.length z) P2) (fun β w' _ hbw => h44 w' hbw.1.1 hbw.1.2) ?_; intro z; obtain ⟨y1, y2⟩ := z; dsimp only)
      all_goals first | (exfalso; omega) | exact ⟨fun β => rfl, fun w' h => h.1.1.1⟩
    · dsimp only [Option.isSome] at h43 h44
      repeat'
       conv => whnf
       first
        | refine zA ?_ | refine zB ?_ | refine zC ?_ | refine zD ?_ | refine zE ?_ | refine zF ?_ | refine zG ?_ | refine zH ?_ | refine zJ ?_ | refine zI ?_ | refine splT ?_ | refine splF ?_ | refine splNot ?_
        | ((first | refine splIn (fun hc => ?_) (fun hc => ?_) | refine splD (fun hc => ?_) (fun hc => ?_) | refine splE (fun hc => ?_) (fun hc => ?_) | refine splNE (fun hc => ?_) (fun hc => ?_)) <;> first | (exfalso; omega) | (exfalso; dsimp only at hc; omega) | skip)
        | ((with_reducible show CallEv _ _ 43 _ _ _ _ _); refine callF [] (fun z : Option Addr × Nat => .tuple #[.agg #[iv B1, iv A1], sV P1.length z, .bool true]) (fun z => Rd 1 iF (sV P1.length z) P1) (fun β w' _ hbw => h43 w' hbw.1 hbw.2) ?_; intro z; obtain ⟨z1, z2⟩ := z; dsimp only)
        | ((with_reducible show CallEv _ _ 44 _ _ _ _ _); refine callF [] (fun z : Option Addr × Nat => .tuple #[.agg #[iv B2, iv A2], sV P2.length z, .bool false]) (fun z => Rd 1 iF (sV P2.length z) P2) (fun β w' _ hbw => h44 w' hbw.1.1 hbw.1.2) ?_; intro z; obtain ⟨y1, y2⟩ := z; dsimp only)
      all_goals first | (exfalso; omega) | exact ⟨fun β => rfl, fun w' h => h.1.1.1⟩
    · dsimp only [Option.isSome] at h43 h44
      repeat'
       conv => whnf
       first
        | refine zA ?_ | refine zB ?_ | refine zC ?_ | refine zD ?_ | refine zE ?_ | refine zF ?_ | refine zG ?_ | refine zH ?_ | refine zJ ?_ | refine zI ?_ | refine splT ?_ | refine splF ?_ | refine splNot ?_
        | ((first | refine splIn (fun hc => ?_) (fun hc => ?_) | refine splD (fun hc => ?_) (fun hc => ?_) | refine splE (fun hc => ?_) (fun hc => ?_) | refine splNE (fun hc => ?_) (fun hc => ?_)) <;> first | (exfalso; omega) | (exfalso; dsimp only at hc; omega) | skip)
        | ((with_reducible show CallEv _ _ 43 _ _ _ _ _); refine callF [] (fun z : Option Addr × Nat => .tuple #[.agg #[iv B1, iv A1], sV P1.length z, .bool true]) (fun z => Rd 1 iF (sV P1.length z) P1) (fun β w' _ hbw => h43 w' hbw.1 hbw.2) ?_; intro z; obtain ⟨z1, z2⟩ := z; dsimp only)
        | ((with_reducible show CallEv _ _ 44 _ _ _ _ _); refine callF [] (fun z : Option Addr × Nat => .tuple #[.agg #[iv B2, iv A2], sV P2.length z, .bool true]) (fun z => Rd 1 iF (sV P2.length z) P2) (fun β w' _ hbw => h44 w' hbw.1.1 hbw.1.2) ?_; intro z; obtain ⟨y1, y2⟩ := z; dsimp only)
      all_goals first | (exfalso; omega) | exact ⟨fun β => rfl, fun w' h => h.1.1.1⟩

set_option maxHeartbeats 8000000 in
set_option maxRecDepth 100000 in
theorem RoomR_ok (r : Rig) (PP : List Int) (BB : List Bm) (LL : List Ld) (b a : Int) (kd : Nat) (w : World) (hX : RigX r PP BB LL w) (hr : rigOk r.f0 r.f1 r.f2 PP BB LL = true) (hh : hasB PP.length b a BB.length = true) (hk : kd ≤ 2) (hl : LL.length < 20) :
    Calls Try.prog 53 #[r.v, .agg #[iv b, iv a], .int .u8 kd] w fun e w' => e = .returned (iv (bs (sfB r PP BB LL b a kd) 1000000 0 1000000)) ∧ Below w.heap.size w w' := by
  have h52 := fun (n : Int) (hn : 0 ≤ n ∧ n ≤ 1000000) (w' : World) (hb : Below w.heap.size w w') => SafeR_ok r PP BB LL b a kd n w' (hX.below hb) hr hh hk hn hl
  generalize sfB r PP BB LL b a kd = S at *
  obtain ⟨po, pn, pc, bo, bn, bc, f0, f1, f2, lo, ln, lc⟩ := r
  refine calls_val env mixed Try.func53 has53 Try.ntmps53 [.agg #[.slice po pn pc, .slice bo bn bc, iv f0, iv f1, iv f2, .slice lo ln lc], .agg #[iv b, iv a], .int .u8 kd] (by simp) ?_
  repeat'
   conv => whnf
   first
    | refine zA ?_ | refine zB ?_ | refine zC ?_ | refine zD ?_ | refine zE ?_ | refine zF ?_ | refine zG ?_ | refine zH ?_ | refine zJ ?_ | refine zI ?_ | refine splT ?_ | refine splF ?_ | refine splNot ?_
    | ((first | refine splIn (fun hc => ?_) (fun hc => ?_) | refine splD (fun hc => ?_) (fun hc => ?_) | refine splE (fun hc => ?_) (fun hc => ?_) | refine splNE (fun hc => ?_) (fun hc => ?_)) <;> first | (exfalso; omega) | (exfalso; dsimp only at hc; omega) | skip)
  refine loopN2 2 (fun (x y : Nat) => [(2, .v (.int .u8 kd)), (3, .ptr 0 0), (4, .ptr 1 0), (7, .v (iv x)), (8, .v (iv y))]) (fun _ _ => [(0, .cells [.v (.slice po pn pc), .v (.slice bo bn bc), .v (iv f0), .v (iv f1), .v (iv f2), .v (.slice lo ln lc)] 48), (1, .cells [.v (iv b), .v (iv a)] 62)])
    (fun x y => x ≤ y ∧ y ≤ 1000000 ∧ bs S 1000000 0 1000000 = bs S (y - x) x y) (fun x y => y - x) 0 1000000 ⟨by omega, by omega, rfl⟩ ⟨rfl, rfl, rfl, rfl, rfl, trivial⟩ ⟨rfl, rfl, trivial⟩ (fun _ _ _ => ⟨rfl, rfl⟩) ?_
  intro x y ⟨hx, hy, hR⟩
  rcases Nat.lt_or_ge x y with hxy | hxy
  · rw [bs_step S x y hxy] at hR
    have hm : ((x : Int) + y + 1) / 2 = (((x + y + 1) / 2 : Nat) : Int) := by omega
    obtain ⟨m, hmm⟩ : ∃ m : Nat, (x + y + 1) / 2 = m := ⟨_, rfl⟩
    rw [hmm] at hR hm
    have h52m := h52 m (by omega)
    cases hsm : S m <;> rw [hsm] at hR h52m
    · rw [if_neg (by simp)] at hR
      have hm1 : (m : Int) - 1 = ((m - 1 : Nat) : Int) := by omega
      repeat'
       conv => whnf
       first
        | refine zA ?_ | refine zB ?_ | refine zC ?_ | refine zD ?_ | refine zE ?_ | refine zF ?_ | refine zG ?_ | refine zH ?_ | refine zJ ?_ | refine zI ?_ | refine splT ?_ | refine splF ?_ | refine splNot ?_
        | ((first | refine splIn (fun hc => ?_) (fun hc => ?_) | refine splD (fun hc => ?_) (fun hc => ?_) | refine splE (fun hc => ?_) (fun hc => ?_) | refine splNE (fun hc => ?_) (fun hc => ?_)) <;> first | (exfalso; omega) | (exfalso; dsimp only at hc; omega) | skip)
        | (refine quoE (by omega) (by omega) (And.intro (by omega) (by omega)) ?_; rw [hm])
        | ((with_reducible show CallEv _ _ 52 _ _ _ _ _); refine callE (k := 52) (fun β w' hbw => h52m _ hbw) ?_)
      all_goals first | (exfalso; omega) | exact ⟨x, m - 1, ⟨by omega, by omega, hR⟩, by omega, Ent.weak rfl ⟨rfl, rfl, rfl, rfl, by rw [← hm1]; rfl, trivial⟩ ⟨rfl, rfl, trivial⟩ fun _ h => h⟩
    · rw [if_pos rfl] at hR
      repeat'
       conv => whnf
       first
        | refine zA ?_ | refine zB ?_ | refine zC ?_ | refine zD ?_ | refine zE ?_ | refine zF ?_ | refine zG ?_ | refine zH ?_ | refine zJ ?_ | refine zI ?_ | refine splT ?_ | refine splF ?_ | refine splNot ?_
        | ((first | refine splIn (fun hc => ?_) (fun hc => ?_) | refine splD (fun hc => ?_) (fun hc => ?_) | refine splE (fun hc => ?_) (fun hc => ?_) | refine splNE (fun hc => ?_) (fun hc => ?_)) <;> first | (exfalso; omega) | (exfalso; dsimp only at hc; omega) | skip)
        | (refine quoE (by omega) (by omega) (And.intro (by omega) (by omega)) ?_; rw [hm])
        | ((with_reducible show CallEv _ _ 52 _ _ _ _ _); refine callE (k := 52) (fun β w' hbw => h52m _ hbw) ?_)
      all_goals first | (exfalso; omega) | exact ⟨m, y, ⟨by omega, by omega, hR⟩, by omega, Ent.weak rfl ⟨rfl, rfl, rfl, rfl, rfl, trivial⟩ ⟨rfl, rfl, trivial⟩ fun _ h => h⟩
  · rw [bs_done S _ x y (by omega)] at hR
    rw [hR]
    repeat'
     conv => whnf
     first
      | refine zA ?_ | refine zB ?_ | refine zC ?_ | refine zD ?_ | refine zE ?_ | refine zF ?_ | refine zG ?_ | refine zH ?_ | refine zJ ?_ | refine zI ?_ | refine splT ?_ | refine splF ?_ | refine splNot ?_
      | ((first | refine splIn (fun hc => ?_) (fun hc => ?_) | refine splD (fun hc => ?_) (fun hc => ?_) | refine splE (fun hc => ?_) (fun hc => ?_) | refine splNE (fun hc => ?_) (fun hc => ?_)) <;> first | (exfalso; omega) | (exfalso; dsimp only at hc; omega) | skip)
    all_goals first | (exfalso; omega) | exact ⟨fun β => rfl, fun w' h => h⟩
end Go.Proofs.Ytaciigegbgnadaa
