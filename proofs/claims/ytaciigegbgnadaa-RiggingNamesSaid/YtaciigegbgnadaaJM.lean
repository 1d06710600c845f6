/- Clone; safe (Room's closure): whether a rig bears one load more. -/
import Derived.Test.YtaciigegbgnadaaJE
import Derived.Test.YtaciigegbgnadaaIX
import Derived.WalkSpells
namespace Go.Proofs.Ytaciigegbgnadaa
open Go Tx Go.RowKit
set_option linter.unusedSimpArgs false
set_option linter.unusedVariables false

theorem under56 : Try.prog.underlying 56 = some (.slice 69) := by kernel_rfl
theorem eqlSE {o : Option Addr} {n c : Nat} {x y : Operand} {K : Value → Prop} (h : K (.bool o.isNone)) : ∃ v, (∀ _ : Nat → Nat, RunIs Try.prog (do eqGuard .eql 56 x y (.slice o n c) (.slice none 0 0); binOp .eql 56 (.slice o n c) (.slice none 0 0)) v) ∧ K v :=
  ⟨_, fun _ w => by simp [eqGuard, binOp, Op.equal, Op.maxDepth, Lib.run_equalIn_slice_nil w 9999 56 69 o n c 0 0 under56], h⟩
theorem one5 (L : List Ld) : ∀ v ∈ L.flatMap Ld.cs, v.oneCell' = true := by
  intro v hv
  obtain ⟨l, _, h⟩ := List.mem_flatMap.1 hv
  simp only [Ld.cs, List.mem_cons, List.not_mem_nil, or_false] at h
  rcases h with rfl | rfl | rfl | rfl | rfl <;> rfl
theorem len5 (L : List Ld) : (L.flatMap Ld.cs).length = L.length * 5 := by
  induction L with
  | nil => rfl
  | cons a L ih => simp only [List.flatMap_cons, List.length_append, ih, List.length_cons, List.length_nil]; omega
set_option maxHeartbeats 1000000 in
set_option maxRecDepth 100000 in
theorem Clone_own (LL : List Ld) (o : Option Addr) (c : Nat) (w : World) (hrd : Rd 5 Ld.cs (.slice o LL.length c) LL w) (h0 : LL ≠ []) (hl : LL.length ≤ 1000000) :
    Calls Try.prog 80 #[.slice o LL.length c] w fun e w' => ∃ b d, e = .returned (.slice (some ⟨b, 0, none⟩) LL.length d) ∧ w.heap.size ≤ b ∧ Below w.heap.size w w' ∧ w'.ownsRow 0 69 5 (.slice (some ⟨b, 0, none⟩) LL.length d) LL.length (LL.flatMap Ld.cs) := by
  refine calls_fam2 env mixed Try.func80 has80 Try.ntmps80 [.slice o LL.length c] (by simp) ?_
  have hp : 1 ≤ LL.length := by cases LL with | nil => exact absurd rfl h0 | cons a A => simp
  obtain ⟨_, ad, rfl, _⟩ := hrd.ptr hp
  have he := fun (w' : World) (hb : Below w.heap.size w w') => Rd.ext (f := Ld.cs) (sz := 5) (fun _ => rfl) (hrd.below hb)
  have hln := len5 LL
  have hon := one5 LL
  generalize LL.flatMap Ld.cs = X at *
  generalize LL.length = n at *
  repeat'
   conv => whnf
   first
    | refine zA ?_ | refine zB ?_ | refine zC ?_ | refine zD ?_ | refine zE ?_ | refine zF ?_ | refine zG ?_ | refine zH ?_ | refine zI ?_ | refine splT ?_ | refine splF ?_ | refine splNot ?_
    | ((first | refine splIn (fun hc => ?_) (fun hc => ?_) | refine splD (fun hc => ?_) (fun hc => ?_) | refine splE (fun hc => ?_) (fun hc => ?_) | refine splNE (fun hc => ?_) (fun hc => ?_)) <;> first | (exfalso; omega) | (exfalso; dsimp only at hc; omega) | skip)
    | refine eqlSE ?_
    | refine Exists.intro (α := List Value) X ⟨⟨hln, fun w' hw' => he w' hw', hon⟩, ?_⟩
  have hz : 0 + n = n := Nat.zero_add n
  exact ⟨fun w' h => h, fun β w' hB hB2 hblk => ⟨β 1, β 2, congrArg (fun z => Ending.returned (.slice (some ⟨β 1, 0, none⟩) z (β 2))) hz, (hblk 1 _ rfl rfl).1, hB2, by have := (hblk 1 _ rfl rfl).2; simp only [Blk.ok, List.nil_append, hz] at this; exact this⟩⟩
set_option maxRecDepth 100000 in
theorem Clone_nil (w : World) : Calls Try.prog 80 #[.slice none 0 0] w fun e w' => e = .returned (.slice none 0 0) ∧ Below w.heap.size w w' := by
  refine calls_val env mixed Try.func80 has80 Try.ntmps80 [.slice none 0 0] (by simp) ?_
  repeat'
   conv => whnf
   first
    | refine zA ?_ | refine zB ?_ | refine zC ?_ | refine zD ?_ | refine zE ?_ | refine zF ?_ | refine zG ?_ | refine zH ?_ | refine zI ?_ | refine splT ?_ | refine splF ?_ | refine splNot ?_
    | ((first | refine splIn (fun hc => ?_) (fun hc => ?_) | refine splD (fun hc => ?_) (fun hc => ?_) | refine splE (fun hc => ?_) (fun hc => ?_) | refine splNE (fun hc => ?_) (fun hc => ?_)) <;> first | (exfalso; omega) | (exfalso; dsimp only at hc; omega) | skip)
    | refine eqlSE ?_
  all_goals first | (exfalso; omega) | exact ⟨fun β => rfl, fun w' h => h⟩
/-- Is no part over, and no hanger slack, with one load more? -/
def sfW (r : Rig) (PP : List Int) (BB : List Bm) (LL : List Ld) : Bool := (ovO r PP BB LL (frF BB LL)).isNone && (slO r BB LL (frF BB LL)).isNone
def sfB (r : Rig) (PP : List Int) (BB : List Bm) (LL : List Ld) (b a : Int) (kd : Nat) (n : Int) : Bool := sfW r PP BB (LL ++ [⟨b, a, kd, 0, n⟩])
theorem rigOk_more {f0 f1 f2 : Int} {PP : List Int} {BB : List Bm} {LL : List Ld} (hr : rigOk f0 f1 f2 PP BB LL = true) {b a : Int} {kd : Nat} {n : Int} (hh : hasB PP.length b a BB.length = true) (hk : kd ≤ 2) (hn : 0 ≤ n ∧ n ≤ 1000000) (hl : LL.length < 20) : rigOk f0 f1 f2 PP BB (LL ++ [⟨b, a, kd, 0, n⟩]) = true := by
  rw [rigOk_iff] at hr ⊢
  obtain ⟨h1, h2, h3, h4, h5, h6, h7⟩ := hr
  refine ⟨h1, h2, h3, h4, by rw [List.length_append]; simp; omega, h6, ?_⟩
  rw [List.all_append, h7, Bool.true_and, List.all_cons, List.all_nil, Bool.and_true, ldOk_iff]
  exact ⟨hh, by show ((kd : Nat) : Int) ≤ 2; omega, by show (0 : Int) ≤ 0 ∧ (0 : Int) ≤ 1000000; omega, hn, hn.1⟩

theorem over_w (r : Rig) (PP : List Int) (BB : List Bm) (LL : List Ld) (y : FrA) (w : World) (h : RigIn r PP BB LL w) (hr : rigOk r.f0 r.f1 r.f2 PP BB LL = true) (hy : FrIn r PP.length BB.length (frF BB LL) y w) :
    Calls Try.prog 75 #[.pointer (some ⟨y.fb, 0, none⟩)] w fun e w' => e = .returned (ovO r PP BB LL (frF BB LL)).v ∧ Below w.heap.size w w' := by
  have := over_ok r PP BB LL (frF BB LL) y w h hr hy (frF_Q hr).2 (frF_Q hr).1
  rw [ovV_eq] at this
  exact this
theorem slack_w (r : Rig) (PP : List Int) (BB : List Bm) (LL : List Ld) (y : FrA) (w : World) (h : RigIn r PP BB LL w) (hr : rigOk r.f0 r.f1 r.f2 PP BB LL = true) (hy : FrIn r PP.length BB.length (frF BB LL) y w) :
    Calls Try.prog 77 #[.pointer (some ⟨y.fb, 0, none⟩)] w fun e w' => e = .returned (slO r BB LL (frF BB LL)).v ∧ Below w.heap.size w w' := by
  have := slack_ok r PP BB LL (frF BB LL) y w h hr hy (frF_Q hr).2
  rw [ptV_eq] at this
  exact this
set_option maxHeartbeats 8000000 in
set_option maxRecDepth 100000 in
theorem Room1_ok (r : Rig) (PP : List Int) (BB : List Bm) (LL : List Ld) (b a : Int) (kd : Nat) (n : Int) (pa pb pc : Addr) (w : World) (h : RigIn r PP BB LL w) (hr : rigOk r.f0 r.f1 r.f2 PP BB LL = true) (hnil : LL = [] → r.lo = none ∧ r.lc = 0)
    (ha : ∀ j v, r.cs[j]? = some v → w.cell? (pa.add j) = some v) (hb : ∀ j v, [iv b, iv a][j]? = some v → w.cell? (pb.add j) = some v) (hc : ∀ j v, [Value.int .u8 kd][j]? = some v → w.cell? (pc.add j) = some v) (hh : hasB PP.length b a BB.length = true) (hk : kd ≤ 2) (hn : 0 ≤ n ∧ n ≤ 1000000) (hl : LL.length < 20) :
    Calls Try.prog 79 #[iv n, .pointer (some pa), .pointer (some pb), .pointer (some pc)] w fun e w' => e = .returned (.bool (sfB r PP BB LL b a kd n)) ∧ Below w.heap.size w w' := by
  have hri := rigOk_iff.1 hr
  have hr2 := rigOk_more hr hh hk hn hl
  obtain ⟨po, pn, pc', bo, bn, bc, f0, f1, f2, lo, ln, lc⟩ := r
  obtain ⟨hP, hB, hL, rfl, rfl, rfl, l1, l2, l3⟩ := h
  dsimp only at hP hB hL l1 l2 l3 hr hr2 hnil
  have hcl := fun (w' : World) (hb : Below w.heap.size w w') (hne : LL ≠ []) => Clone_own LL lo lc w' (hL.below hb) hne l3
  have hcn := fun (w' : World) => Clone_nil w'
  have ga := fun (w' : World) (hb' : Below w.heap.size w w') => fun j v h => ext_below hb' (ha j v h)
  have ga5 := fun (w' : World) (hb' : Below w.heap.size w w') => fun j v (h : [Value.slice lo LL.length lc][j]? = some v) => (show w'.cell? ((pa.add 5).add j) = some v from by
    match j, h with
    | 0, h => rw [Addr.add_add]; exact ga w' hb' 5 v h)
  have gb := fun (w' : World) (hb' : Below w.heap.size w w') => fun j v h => ext_below hb' (hb j v h)
  have gc := fun (w' : World) (hb' : Below w.heap.size w w') => fun j v h => ext_below hb' (hc j v h)
  refine calls_valV env mixed Try.func79 has79 Try.ntmps79 [iv n, .pointer (some pa), .pointer (some pb), .pointer (some pc)] (by simp) ?_
  unfold sfB sfW
  have hll : (LL ++ [(⟨b, a, kd, 0, n⟩ : Ld)]).length = LL.length + 1 := by simp
  obtain ⟨hQ1, hQ2⟩ := frF_Q hr2
  refine VC.cutD env mixed 3 1 (fun x : Option Addr × Nat => [(6, .ptr 0 0)]) (fun x => [(0, .cells [.v (.slice po PP.length pc'), .v (.slice bo BB.length bc), .v (iv f0), .v (iv f1), .v (iv f2), .v (sV (LL.length + 1) x)] 58)])
    (fun x w2 => Below w.heap.size w w2 ∧ Rd 5 Ld.cs (sV (LL.length + 1) x) (LL ++ [⟨b, a, kd, 0, n⟩]) w2) (fun _ => True) (fun _ _ => ⟨rfl, rfl⟩) ?_ ?_
  · by_cases hne : LL = []
    · obtain ⟨rfl, rfl⟩ := hnil hne
      subst hne
      repeat'
       conv => whnf
       first
        | refine zA ?_ | refine zB ?_ | refine zC ?_ | refine zD ?_ | refine zE ?_ | refine zF ?_ | refine zG ?_ | refine zH ?_ | refine zI ?_ | refine splT ?_ | refine splF ?_ | refine splNot ?_
        | ((first | refine splIn (fun hc => ?_) (fun hc => ?_) | refine splD (fun hc => ?_) (fun hc => ?_) | refine splE (fun hc => ?_) (fun hc => ?_) | refine splNE (fun hc => ?_) (fun hc => ?_)) <;> first | (exfalso; omega) | (exfalso; dsimp only at hc; omega) | skip)
        | refine Exists.intro (α := List Value) [.slice po PP.length pc', .slice bo BB.length bc, iv f0, iv f1, iv f2, .slice none 0 0] ⟨⟨rfl, fun w' hw' => ga w' hw'⟩, ?_⟩
        | refine Exists.intro (α := List Value) [.slice none 0 0] ⟨⟨rfl, fun w' hw' => ga5 w' hw'⟩, ?_⟩
        | refine Exists.intro (α := List Value) [iv b, iv a] ⟨⟨rfl, fun w' hw' => gb w' hw'⟩, ?_⟩
        | refine Exists.intro (α := List Value) [.int .u8 kd] ⟨⟨rfl, fun w' hw' => gc w' hw'⟩, ?_⟩
        | ((with_reducible show CallEv _ _ 80 _ _ _ _ _); refine callE (k := 80) (fun β w' hbw => hcn _) ?_)
      exact ⟨rfl, Dis.mk [2] (fun i hi => by simp at hi; subst hi; exact ⟨_, rfl, rfl⟩) fun β w1 hb hw => ⟨(some ⟨β 2, 0, none⟩, β 3), trivial, ⟨⟨_, rfl, rfl⟩, trivial⟩, ⟨⟨rfl, _, _, _, rfl, rfl, rfl⟩, trivial⟩, fun w2 h2 hb2 => ⟨h2, Rd.of_owns (sz := 5) (f := Ld.cs) (fun _ => rfl) (by simp) hll.symm (hb2 2 (by simp) _ rfl)⟩⟩⟩
    · skip
      repeat'
       conv => whnf
       first
        | refine zA ?_ | refine zB ?_ | refine zC ?_ | refine zD ?_ | refine zE ?_ | refine zF ?_ | refine zG ?_ | refine zH ?_ | refine zI ?_ | refine splT ?_ | refine splF ?_ | refine splNot ?_
        | ((first | refine splIn (fun hc => ?_) (fun hc => ?_) | refine splD (fun hc => ?_) (fun hc => ?_) | refine splE (fun hc => ?_) (fun hc => ?_) | refine splNE (fun hc => ?_) (fun hc => ?_)) <;> first | (exfalso; omega) | (exfalso; dsimp only at hc; omega) | skip)
        | refine Exists.intro (α := List Value) [.slice po PP.length pc', .slice bo BB.length bc, iv f0, iv f1, iv f2, .slice lo LL.length lc] ⟨⟨rfl, fun w' hw' => ga w' hw'⟩, ?_⟩
        | refine Exists.intro (α := List Value) [.slice lo LL.length lc] ⟨⟨rfl, fun w' hw' => ga5 w' hw'⟩, ?_⟩
        | refine Exists.intro (α := List Value) [iv b, iv a] ⟨⟨rfl, fun w' hw' => gb w' hw'⟩, ?_⟩
        | refine Exists.intro (α := List Value) [.int .u8 kd] ⟨⟨rfl, fun w' hw' => gc w' hw'⟩, ?_⟩
        | ((with_reducible show CallEv _ _ 80 _ _ _ _ _); refine callO 1 [] (.os 1 2 LL.length) LL.length 5 (LL.flatMap Ld.cs) 69 rfl (fun β w' _ hbw => (hcl w' hbw hne).mono fun _ _ ⟨b, c, h1, h2, h3, h4⟩ => ⟨b, c, h1, h2, h3, h4⟩) ?_)
      exact ⟨rfl, Dis.mk [4] (fun i hi => by simp at hi; subst hi; exact ⟨_, rfl, rfl⟩) fun β w1 hb hw => ⟨(some ⟨β 4, 0, none⟩, β 5), trivial, ⟨⟨_, rfl, rfl⟩, trivial⟩, ⟨⟨rfl, _, _, _, rfl, rfl, rfl⟩, trivial⟩, fun w2 h2 hb2 => ⟨h2, Rd.of_owns (sz := 5) (f := Ld.cs) (fun _ => rfl) (by simp) hll.symm (hb2 4 (by simp) _ rfl)⟩⟩⟩
  · rintro ⟨x1, x2⟩ _
    have hin := fun (w' : World) (hb : Below w.heap.size w w' ∧ Rd 5 Ld.cs (sV (LL.length + 1) (x1, x2)) (LL ++ [⟨b, a, kd, 0, n⟩]) w') => (⟨hP.below hb.1, hB.below hb.1, by rw [hll]; exact hb.2, rfl, rfl, hll.symm, l1, l2, by omega⟩ : RigIn ⟨po, PP.length, pc', bo, BB.length, bc, f0, f1, f2, x1, LL.length + 1, x2⟩ PP BB (LL ++ [⟨b, a, kd, 0, n⟩]) w')
    have hfr := fun (w' : World) hb => frame_ok ⟨po, PP.length, pc', bo, BB.length, bc, f0, f1, f2, x1, LL.length + 1, x2⟩ PP BB (LL ++ [⟨b, a, kd, 0, n⟩]) w' (hin w' hb) hr2 (frB_of hr2)
    have hov := fun (y : FrA) (w' : World) hb hy => over_w ⟨po, PP.length, pc', bo, BB.length, bc, f0, f1, f2, x1, LL.length + 1, x2⟩ PP BB (LL ++ [⟨b, a, kd, 0, n⟩]) y w' (hin w' hb) hr2 hy
    have hsl := fun (y : FrA) (w' : World) hb hy => slack_w ⟨po, PP.length, pc', bo, BB.length, bc, f0, f1, f2, x1, LL.length + 1, x2⟩ PP BB (LL ++ [⟨b, a, kd, 0, n⟩]) y w' (hin w' hb) hr2 hy
    rw [ovO_fac (r := ⟨po, PP.length, pc', bo, BB.length, bc, f0, f1, f2, lo, LL.length, lc⟩) (r' := ⟨po, PP.length, pc', bo, BB.length, bc, f0, f1, f2, x1, LL.length + 1, x2⟩) (fun k => rfl), slO_fac (r := ⟨po, PP.length, pc', bo, BB.length, bc, f0, f1, f2, lo, LL.length, lc⟩) (r' := ⟨po, PP.length, pc', bo, BB.length, bc, f0, f1, f2, x1, LL.length + 1, x2⟩) (fun k => rfl)]
    generalize ovO ⟨po, PP.length, pc', bo, BB.length, bc, f0, f1, f2, x1, LL.length + 1, x2⟩ PP BB (LL ++ [⟨b, a, kd, 0, n⟩]) (frF BB (LL ++ [⟨b, a, kd, 0, n⟩])) = W1 at *
    generalize slO ⟨po, PP.length, pc', bo, BB.length, bc, f0, f1, f2, x1, LL.length + 1, x2⟩ BB (LL ++ [⟨b, a, kd, 0, n⟩]) (frF BB (LL ++ [⟨b, a, kd, 0, n⟩])) = W2 at *
    generalize frF BB (LL ++ [(⟨b, a, kd, 0, n⟩ : Ld)]) = F at *
    generalize LL ++ [(⟨b, a, kd, 0, n⟩ : Ld)] = L2 at *
    refine VC.of env mixed ?_
    rcases W1 with _ | ⟨b1, a1, r1⟩ <;> rcases W2 with _ | ⟨b2, a2, r2⟩
    all_goals skip
    repeat'
     conv => whnf
     first
      | refine zA ?_ | refine zB ?_ | refine zC ?_ | refine zD ?_ | refine zE ?_ | refine zF ?_ | refine zG ?_ | refine zH ?_ | refine zI ?_ | refine splT ?_ | refine splF ?_ | refine splNot ?_
      | ((first | refine splIn (fun hc => ?_) (fun hc => ?_) | refine splD (fun hc => ?_) (fun hc => ?_) | refine splE (fun hc => ?_) (fun hc => ?_) | refine splNE (fun hc => ?_) (fun hc => ?_)) <;> first | (exfalso; omega) | (exfalso; dsimp only at hc; omega) | skip)
      | ((with_reducible show CallEv _ _ 69 _ _ _ _ _); refine callF [] (fun y : FrA => .pointer (some ⟨y.fb, 0, none⟩)) (fun y => FrIn ⟨po, PP.length, pc', bo, BB.length, bc, f0, f1, f2, x1, LL.length + 1, x2⟩ PP.length BB.length F y) (fun β w' _ hbw => hfr w' hbw) ?_; intro y; have hov := hov y; have hsl := hsl y; obtain ⟨fb, pb', qc, gb', gc', ub, uc⟩ := y; dsimp only at hov hsl ⊢)
      | ((with_reducible show CallEv _ _ 75 _ _ _ _ _); refine callE (k := 75) (fun β w' hbw => hov _ hbw.1 hbw.2) ?_)
      | ((with_reducible show CallEv _ _ 77 _ _ _ _ _); refine callE (k := 77) (fun β w' hbw => hsl _ hbw.1 hbw.2) ?_)
    all_goals first | (exfalso; omega) | exact ⟨fun β => rfl, fun w' h => h.1.1⟩
end Go.Proofs.Ytaciigegbgnadaa
