/- Part 7 of the proof: texts merged. -/
import Derived.Test.YtfbokllafdnglaaRGf
import Derived.WalkSpells
namespace Go.Proofs.Ytfbokllafdnglaa
open Go Tx Go.RowKit
set_option linter.unusedSimpArgs false
set_option linter.unusedVariables false
theorem under56 : Try.prog.underlying 39 = some (.slice 47) := by kernel_rfl
theorem eqlSE {o : Option Addr} {n c : Nat} {x y : Operand} {K : Value → Prop} (h : K (.bool o.isNone)) : ∃ v, (∀ _ : Nat → Nat, RunIs Try.prog (do eqGuard .eql 39 x y (.slice o n c) (.slice none 0 0); binOp .eql 39 (.slice o n c) (.slice none 0 0)) v) ∧ K v :=
 ⟨_, fun _ w => by simp [eqGuard, binOp, Op.equal, Op.maxDepth, Lib.run_equalIn_slice_nil w 9999 39 47 o n c 0 0 under56], h⟩
theorem one5 (L : List Ld) : ∀ v ∈ L.flatMap Ld.cs, v.oneCell' = true := by
 intro v hv
 obtain ⟨l, _, h⟩ := List.mem_flatMap.1 hv
 simp only [Ld.cs, List.mem_cons, List.not_mem_nil, or_false] at h
 rcases h with rfl | rfl | rfl | rfl | rfl <;> rfl
theorem len5 (L : List Ld) : (L.flatMap Ld.cs).length = L.length * 5 := by
 induction L with
 | nil => rfl
 | cons a L ih => simp only [List.flatMap_cons, List.length_append, ih, List.length_cons, List.length_nil]; omega
set_option maxHeartbeats 1000000 in
set_option maxRecDepth 100000 in
theorem Clone_own (LL : List Ld) (o : Option Addr) (c : Nat) (w : World) (hrd : Rd 5 Ld.cs (.slice o LL.length c) LL w) (h0 : LL ≠ []) (hl : LL.length ≤ 1000000) :
 Calls Try.prog 41 #[.slice o LL.length c] w fun e w' => ∃ b d, e = .returned (.slice (some ⟨b, 0, none⟩) LL.length d) ∧ w.heap.size ≤ b ∧ Below w.heap.size w w' ∧ w'.ownsRow 0 47 5 (.slice (some ⟨b, 0, none⟩) LL.length d) LL.length (LL.flatMap Ld.cs) := by
 refine calls_fam2 env mixed Try.func41 has41 Try.ntmps41 [.slice o LL.length c] (by simp) ?_
 have hp : 1 ≤ LL.length := by cases LL with | nil => exact absurd rfl h0 | cons a A => simp
 obtain ⟨_, ad, rfl, _⟩ := hrd.ptr hp
 have he := fun (w' : World) (hb : Below w.heap.size w w') => Rd.ext (f := Ld.cs) (sz := 5) (fun _ => rfl) (hrd.below hb)
 have hln := len5 LL
 have hon := one5 LL
 generalize LL.flatMap Ld.cs = X at *
 generalize LL.length = n at *
 repeat'
  conv => whnf
  first
   | refine zA ?_ | refine zB ?_ | refine zC ?_ | refine zD ?_ | refine zE ?_ | refine zF ?_ | refine zG ?_ | refine zH ?_ | refine zI ?_ | refine splT ?_ | refine splF ?_ | refine splNot ?_
   | ((first | refine splIn ?_ ?_ | refine splD ?_ ?_ | refine splE ?_ ?_ | refine splNE ?_ ?_) <;> intro hc <;> first | (exfalso; omega) | (exfalso; dsimp only at hc; omega) | skip)
   | refine eqlSE ?_
   | refine Exists.intro (α := List Value) X ⟨⟨hln, fun w' hw' => he w' hw', hon⟩, ?_⟩
 have hz : 0 + n = n := Nat.zero_add n
 exact ⟨fun w' h => h, fun β w' hB hB2 hblk => ⟨β 1, β 2, congrArg (fun z => Ending.returned (.slice (some ⟨β 1, 0, none⟩) z (β 2))) hz, (hblk 1 _ rfl rfl).1, hB2, by have := (hblk 1 _ rfl rfl).2; simp only [Blk.ok, List.nil_append, hz] at this; exact this⟩⟩
set_option maxRecDepth 100000 in
theorem Clone_nil (w : World) : Calls Try.prog 41 #[.slice none 0 0] w fun e w' => e = .returned (.slice none 0 0) ∧ Below w.heap.size w w' := by
 refine calls_val env mixed Try.func41 has41 Try.ntmps41 [.slice none 0 0] (by simp) ?_
 repeat'
  conv => whnf
  first
   | refine zA ?_ | refine zB ?_ | refine zC ?_ | refine zD ?_ | refine zE ?_ | refine zF ?_ | refine zG ?_ | refine zH ?_ | refine zI ?_ | refine splT ?_ | refine splF ?_ | refine splNot ?_
   | ((first | refine splIn ?_ ?_ | refine splD ?_ ?_ | refine splE ?_ ?_ | refine splNE ?_ ?_) <;> intro hc <;> first | (exfalso; omega) | (exfalso; dsimp only at hc; omega) | skip)
   | refine eqlSE ?_
 all_goals first | (exfalso; omega) | exact ⟨fun β => rfl, fun w' h => h⟩
def sfW (r : Rig) (PP : List Int) (BB : List Bm) (LL : List Ld) : Bool := (ovO r PP BB LL (frF BB LL)).isNone && (slO r BB LL (frF BB LL)).isNone
def sfB (r : Rig) (PP : List Int) (BB : List Bm) (LL : List Ld) (b a : Int) (kd : Nat) (n : Int) : Bool := sfW r PP BB (LL ++ [⟨b, a, kd, 0, n⟩])
theorem rigOk_more {f0 f1 f2 : Int} {PP : List Int} {BB : List Bm} {LL : List Ld} (hr : rigOk f0 f1 f2 PP BB LL = true) {b a : Int} {kd : Nat} {n : Int} (hh : hasB PP.length b a BB.length = true) (hk : kd ≤ 2) (hn : 0 ≤ n ∧ n ≤ 1000000) (hl : LL.length < 20) : rigOk f0 f1 f2 PP BB (LL ++ [⟨b, a, kd, 0, n⟩]) = true := by
 rw [rigOk_iff] at hr ⊢
 obtain ⟨h1, h2, h3, h4, h5, h6, h7⟩ := hr
 refine ⟨h1, h2, h3, h4, by rw [List.length_append]; simp; omega, h6, ?_⟩
 rw [List.all_append, h7, Bool.true_and, List.all_cons, List.all_nil, Bool.and_true, ldOk_iff]
 exact ⟨hh, by show ((kd : Nat) : Int) ≤ 2; omega, by show (0 : Int) ≤ 0 ∧ (0 : Int) ≤ 1000000; omega, hn, hn.1⟩
theorem over_w (r : Rig) (PP : List Int) (BB : List Bm) (LL : List Ld) (y : FrA) (w : World) (h : RigIn r PP BB LL w) (hr : rigOk r.f0 r.f1 r.f2 PP BB LL = true) (hy : FrIn r PP.length BB.length (frF BB LL) y w) :
 Calls Try.prog 29 #[.pointer (some ⟨y.fb, 0, none⟩)] w fun e w' => e = .returned (ovO r PP BB LL (frF BB LL)).v ∧ Below w.heap.size w w' := by
 have := over_ok r PP BB LL (frF BB LL) y w h hr hy (frF_Q hr).2 (frF_Q hr).1
 rw [ovV_eq] at this
 exact this
theorem slack_w (r : Rig) (PP : List Int) (BB : List Bm) (LL : List Ld) (y : FrA) (w : World) (h : RigIn r PP BB LL w) (hr : rigOk r.f0 r.f1 r.f2 PP BB LL = true) (hy : FrIn r PP.length BB.length (frF BB LL) y w) :
 Calls Try.prog 42 #[.pointer (some ⟨y.fb, 0, none⟩)] w fun e w' => e = .returned (slO r BB LL (frF BB LL)).v ∧ Below w.heap.size w w' := by
 have := slack_ok r PP BB LL (frF BB LL) y w h hr hy (frF_Q hr).2
 rw [ptV_eq] at this
 exact this
set_option maxHeartbeats 8000000 in
set_option maxRecDepth 100000 in
theorem Room1_ok (r : Rig) (PP : List Int) (BB : List Bm) (LL : List Ld) (b a : Int) (kd : Nat) (n : Int) (pa pb pc : Addr) (w : World) (h : RigIn r PP BB LL w) (hr : rigOk r.f0 r.f1 r.f2 PP BB LL = true) (hnil : LL = [] → r.lo = none ∧ r.lc = 0)
 (ha : ∀ j v, r.cs[j]? = some v → w.cell? (pa.add j) = some v) (hb : ∀ j v, [iv b, iv a][j]? = some v → w.cell? (pb.add j) = some v) (hc : ∀ j v, [Value.int .u8 kd][j]? = some v → w.cell? (pc.add j) = some v) (hh : hasB PP.length b a BB.length = true) (hk : kd ≤ 2) (hn : 0 ≤ n ∧ n ≤ 1000000) (hl : LL.length < 20) :
 Calls Try.prog 40 #[iv n, .pointer (some pa), .pointer (some pb), .pointer (some pc)] w fun e w' => e = .returned (.bool (sfB r PP BB LL b a kd n)) ∧ Below w.heap.size w w' := by
 have hri := rigOk_iff.1 hr
 have hr2 := rigOk_more hr hh hk hn hl
 obtain ⟨po, pn, pc', bo, bn, bc, f0, f1, f2, lo, ln, lc⟩ := r
 obtain ⟨hP, hB, hL, rfl, rfl, rfl, l1, l2, l3⟩ := h
 dsimp only at hP hB hL l1 l2 l3 hr hr2 hnil
 have hcl := fun (w' : World) (hb : Below w.heap.size w w') (hne : LL ≠ []) => Clone_own LL lo lc w' (hL.below hb) hne l3
 have hcn := fun (w' : World) => Clone_nil w'
 have ga := fun (w' : World) (hb' : Below w.heap.size w w') => fun j v h => ext_below hb' (ha j v h)
 have ga5 := fun (w' : World) (hb' : Below w.heap.size w w') => fun j v (h : [Value.slice lo LL.length lc][j]? = some v) => (show w'.cell? ((pa.add 5).add j) = some v from by
  match j, h with
  | 0, h => rw [Addr.add_add]; exact ga w' hb' 5 v h)
 have gb := fun (w' : World) (hb' : Below w.heap.size w w') => fun j v h => ext_below hb' (hb j v h)
 have gc := fun (w' : World) (hb' : Below w.heap.size w w') => fun j v h => ext_below hb' (hc j v h)
 refine calls_valV env mixed Try.func40 has40 Try.ntmps40 [iv n, .pointer (some pa), .pointer (some pb), .pointer (some pc)] (by simp) ?_
 unfold sfB sfW
 have hll : (LL ++ [(⟨b, a, kd, 0, n⟩ : Ld)]).length = LL.length + 1 := by simp
 obtain ⟨hQ1, hQ2⟩ := frF_Q hr2
 refine VC.cutD env mixed 3 1 (fun x : Option Addr × Nat => [(6, .ptr 0 0)]) (fun x => [(0, .cells [.v (.slice po PP.length pc'), .v (.slice bo BB.length bc), .v (iv f0), .v (iv f1), .v (iv f2), .v (sV (LL.length + 1) x)] 41)])
  (fun x w2 => Below w.heap.size w w2 ∧ Rd 5 Ld.cs (sV (LL.length + 1) x) (LL ++ [⟨b, a, kd, 0, n⟩]) w2) (fun _ => True) (fun _ _ => ⟨rfl, rfl⟩) ?_ ?_
 · by_cases hne : LL = []
   · obtain ⟨rfl, rfl⟩ := hnil hne
     subst hne
     repeat'
      conv => whnf
      first
       | refine zA ?_ | refine zB ?_ | refine zC ?_ | refine zD ?_ | refine zE ?_ | refine zF ?_ | refine zG ?_ | refine zH ?_ | refine zI ?_ | refine splT ?_ | refine splF ?_ | refine splNot ?_
       | ((first | refine splIn ?_ ?_ | refine splD ?_ ?_ | refine splE ?_ ?_ | refine splNE ?_ ?_) <;> intro hc <;> first | (exfalso; omega) | (exfalso; dsimp only at hc; omega) | skip)
       | refine Exists.intro (α := List Value) [.slice po PP.length pc', .slice bo BB.length bc, iv f0, iv f1, iv f2, .slice none 0 0] ⟨⟨rfl, fun w' hw' => ga w' hw'⟩, ?_⟩
       | refine Exists.intro (α := List Value) [.slice none 0 0] ⟨⟨rfl, fun w' hw' => ga5 w' hw'⟩, ?_⟩
       | refine Exists.intro (α := List Value) [iv b, iv a] ⟨⟨rfl, fun w' hw' => gb w' hw'⟩, ?_⟩
       | refine Exists.intro (α := List Value) [.int .u8 kd] ⟨⟨rfl, fun w' hw' => gc w' hw'⟩, ?_⟩
       | ((with_reducible show CallEv _ _ 41 _ _ _ _ _); refine callE (k := 41) (fun β w' hbw => hcn _) ?_)
     exact ⟨rfl, Dis.mk [2] (fun i hi => by simp at hi; subst hi; exact ⟨_, rfl, rfl⟩) fun β w1 hb hw => ⟨(some ⟨β 2, 0, none⟩, β 3), trivial, ⟨⟨_, rfl, rfl⟩, trivial⟩, ⟨⟨rfl, _, _, _, rfl, rfl, rfl⟩, trivial⟩, fun w2 h2 hb2 => ⟨h2, Rd.of_owns (sz := 5) (f := Ld.cs) (fun _ => rfl) (by simp) hll.symm (hb2 2 (by simp) _ rfl)⟩⟩⟩
   · skip
     repeat'
      conv => whnf
      first
       | refine zA ?_ | refine zB ?_ | refine zC ?_ | refine zD ?_ | refine zE ?_ | refine zF ?_ | refine zG ?_ | refine zH ?_ | refine zI ?_ | refine splT ?_ | refine splF ?_ | refine splNot ?_
       | ((first | refine splIn ?_ ?_ | refine splD ?_ ?_ | refine splE ?_ ?_ | refine splNE ?_ ?_) <;> intro hc <;> first | (exfalso; omega) | (exfalso; dsimp only at hc; omega) | skip)
       | refine Exists.intro (α := List Value) [.slice po PP.length pc', .slice bo BB.length bc, iv f0, iv f1, iv f2, .slice lo LL.length lc] ⟨⟨rfl, fun w' hw' => ga w' hw'⟩, ?_⟩
       | refine Exists.intro (α := List Value) [.slice lo LL.length lc] ⟨⟨rfl, fun w' hw' => ga5 w' hw'⟩, ?_⟩
       | refine Exists.intro (α := List Value) [iv b, iv a] ⟨⟨rfl, fun w' hw' => gb w' hw'⟩, ?_⟩
       | refine Exists.intro (α := List Value) [.int .u8 kd] ⟨⟨rfl, fun w' hw' => gc w' hw'⟩, ?_⟩
       | ((with_reducible show CallEv _ _ 41 _ _ _ _ _); refine callO 1 [] (.os 1 2 LL.length) LL.length 5 (LL.flatMap Ld.cs) 47 rfl (fun β w' _ hbw => (hcl w' hbw hne).mono fun _ _ ⟨b, c, h1, h2, h3, h4⟩ => ⟨b, c, h1, h2, h3, h4⟩) ?_)
     exact ⟨rfl, Dis.mk [4] (fun i hi => by simp at hi; subst hi; exact ⟨_, rfl, rfl⟩) fun β w1 hb hw => ⟨(some ⟨β 4, 0, none⟩, β 5), trivial, ⟨⟨_, rfl, rfl⟩, trivial⟩, ⟨⟨rfl, _, _, _, rfl, rfl, rfl⟩, trivial⟩, fun w2 h2 hb2 => ⟨h2, Rd.of_owns (sz := 5) (f := Ld.cs) (fun _ => rfl) (by simp) hll.symm (hb2 4 (by simp) _ rfl)⟩⟩⟩
 · rintro ⟨x1, x2⟩ _
   have hin := fun (w' : World) (hb : Below w.heap.size w w' ∧ Rd 5 Ld.cs (sV (LL.length + 1) (x1, x2)) (LL ++ [⟨b, a, kd, 0, n⟩]) w') => (⟨hP.below hb.1, hB.below hb.1, by rw [hll]; exact hb.2, rfl, rfl, hll.symm, l1, l2, by omega⟩ : RigIn ⟨po, PP.length, pc', bo, BB.length, bc, f0, f1, f2, x1, LL.length + 1, x2⟩ PP BB (LL ++ [⟨b, a, kd, 0, n⟩]) w')
   have hfr := fun (w' : World) hb => frame_ok ⟨po, PP.length, pc', bo, BB.length, bc, f0, f1, f2, x1, LL.length + 1, x2⟩ PP BB (LL ++ [⟨b, a, kd, 0, n⟩]) w' (hin w' hb) hr2 (frB_of hr2)
   have hov := fun (y : FrA) (w' : World) hb hy => over_w ⟨po, PP.length, pc', bo, BB.length, bc, f0, f1, f2, x1, LL.length + 1, x2⟩ PP BB (LL ++ [⟨b, a, kd, 0, n⟩]) y w' (hin w' hb) hr2 hy
   have hsl := fun (y : FrA) (w' : World) hb hy => slack_w ⟨po, PP.length, pc', bo, BB.length, bc, f0, f1, f2, x1, LL.length + 1, x2⟩ PP BB (LL ++ [⟨b, a, kd, 0, n⟩]) y w' (hin w' hb) hr2 hy
   rw [ovO_fac (r := ⟨po, PP.length, pc', bo, BB.length, bc, f0, f1, f2, lo, LL.length, lc⟩) (r' := ⟨po, PP.length, pc', bo, BB.length, bc, f0, f1, f2, x1, LL.length + 1, x2⟩) (fun k => rfl), slO_fac (r := ⟨po, PP.length, pc', bo, BB.length, bc, f0, f1, f2, lo, LL.length, lc⟩) (r' := ⟨po, PP.length, pc', bo, BB.length, bc, f0, f1, f2, x1, LL.length + 1, x2⟩) (fun k => rfl)]
   generalize ovO ⟨po, PP.length, pc', bo, BB.length, bc, f0, f1, f2, x1, LL.length + 1, x2⟩ PP BB (LL ++ [⟨b, a, kd, 0, n⟩]) (frF BB (LL ++ [⟨b, a, kd, 0, n⟩])) = W1 at *
   generalize slO ⟨po, PP.length, pc', bo, BB.length, bc, f0, f1, f2, x1, LL.length + 1, x2⟩ BB (LL ++ [⟨b, a, kd, 0, n⟩]) (frF BB (LL ++ [⟨b, a, kd, 0, n⟩])) = W2 at *
   generalize frF BB (LL ++ [(⟨b, a, kd, 0, n⟩ : Ld)]) = F at *
   generalize LL ++ [(⟨b, a, kd, 0, n⟩ : Ld)] = L2 at *
   refine VC.of env mixed ?_
   rcases W1 with _ | ⟨b1, a1, r1⟩ <;> rcases W2 with _ | ⟨b2, a2, r2⟩
   all_goals skip
   repeat'
    conv => whnf
    first
     | refine zA ?_ | refine zB ?_ | refine zC ?_ | refine zD ?_ | refine zE ?_ | refine zF ?_ | refine zG ?_ | refine zH ?_ | refine zI ?_ | refine splT ?_ | refine splF ?_ | refine splNot ?_
     | ((first | refine splIn ?_ ?_ | refine splD ?_ ?_ | refine splE ?_ ?_ | refine splNE ?_ ?_) <;> intro hc <;> first | (exfalso; omega) | (exfalso; dsimp only at hc; omega) | skip)
     | ((with_reducible show CallEv _ _ 28 _ _ _ _ _); refine callF [] (fun y : FrA => .pointer (some ⟨y.fb, 0, none⟩)) (fun y => FrIn ⟨po, PP.length, pc', bo, BB.length, bc, f0, f1, f2, x1, LL.length + 1, x2⟩ PP.length BB.length F y) (fun β w' _ hbw => hfr w' hbw) ?_; intro y; have hov := hov y; have hsl := hsl y; obtain ⟨fb, pb', qc, gb', gc', ub, uc⟩ := y; dsimp only at hov hsl ⊢)
     | ((with_reducible show CallEv _ _ 29 _ _ _ _ _); refine callE (k := 29) (fun β w' hbw => hov _ hbw.1 hbw.2) ?_)
     | ((with_reducible show CallEv _ _ 42 _ _ _ _ _); refine callE (k := 42) (fun β w' hbw => hsl _ hbw.1 hbw.2) ?_)
   all_goals first | (exfalso; omega) | exact ⟨fun β => rfl, fun w' h => h.1.1⟩
end Go.Proofs.Ytfbokllafdnglaa
namespace Go.Proofs.Ytfbokllafdnglaa
open Go Tx Go.RowKit
set_option linter.unusedSimpArgs false
set_option linter.unusedVariables false
def bs (p : Int → Bool) : Nat → Nat → Nat → Nat
  | 0, lo, _ => lo
  | f + 1, lo, hi => if lo < hi then (if p (((lo + hi + 1) / 2 : Nat) : Int) = true then bs p f ((lo + hi + 1) / 2) hi else bs p f lo ((lo + hi + 1) / 2 - 1)) else lo
theorem bs_done (p : Int → Bool) : ∀ (f lo hi : Nat), ¬ lo < hi → bs p f lo hi = lo
  | 0, _, _, _ => rfl
  | f + 1, lo, hi, h => by rw [bs, if_neg h]
theorem bs_fuel (p : Int → Bool) : ∀ (f g lo hi : Nat), hi - lo ≤ f → hi - lo ≤ g → bs p f lo hi = bs p g lo hi := by
  intro f
  induction f with
  | zero => intro g lo hi h1 h2; rw [bs_done p 0 lo hi (by omega), bs_done p g lo hi (by omega)]
  | succ f ih =>
    intro g lo hi h1 h2
    cases g with
    | zero => rw [bs_done p (f + 1) lo hi (by omega), bs_done p 0 lo hi (by omega)]
    | succ g =>
      rw [bs, bs]
      split
      · split
        · exact ih g _ _ (by omega) (by omega)
        · exact ih g _ _ (by omega) (by omega)
      · rfl
theorem bs_step (p : Int → Bool) (lo hi : Nat) (h : lo < hi) : bs p (hi - lo) lo hi = if p (((lo + hi + 1) / 2 : Nat) : Int) = true then bs p (hi - (lo + hi + 1) / 2) ((lo + hi + 1) / 2) hi else bs p ((lo + hi + 1) / 2 - 1 - lo) lo ((lo + hi + 1) / 2 - 1) := by
  obtain ⟨f, hf⟩ : ∃ f, hi - lo = f + 1 := ⟨hi - lo - 1, by omega⟩
  rw [hf, bs, if_pos h]
  split
  · exact bs_fuel p _ _ _ _ (by omega) (by omega)
  · exact bs_fuel p _ _ _ _ (by omega) (by omega)
theorem bs_spec (p : Int → Bool) (M : Nat) : ∀ (f lo hi : Nat), hi - lo ≤ f → lo ≤ hi → hi ≤ M → p lo = true → (hi = M ∨ p ((hi + 1 : Nat) : Int) = false) → lo ≤ bs p f lo hi ∧ bs p f lo hi ≤ hi ∧ p (bs p f lo hi) = true ∧ (bs p f lo hi = M ∨ p ((bs p f lo hi + 1 : Nat) : Int) = false) := by
  intro f
  induction f with
  | zero => intro lo hi h1 h2 h3 h4 h5; obtain rfl : lo = hi := by omega
            exact ⟨Nat.le_refl _, Nat.le_refl _, h4, h5⟩
  | succ f ih =>
    intro lo hi h1 h2 h3 h4 h5
    rw [bs]
    split
    · rename_i hlt
      split
      · rename_i hp
        have := ih _ hi (by omega) (by omega) h3 hp h5
        exact ⟨by omega, this.2⟩
      · rename_i hp
        have := ih lo ((lo + hi + 1) / 2 - 1) (by omega) (by omega) (by omega) h4 (.inr (by rw [show (lo + hi + 1) / 2 - 1 + 1 = (lo + hi + 1) / 2 from by omega]; simpa using hp))
        exact ⟨this.1, by omega, this.2.2⟩
    · obtain rfl : lo = hi := by omega
      exact ⟨Nat.le_refl _, Nat.le_refl _, h4, h5⟩
def rmE (r : Rig) (PP : List Int) (BB : List Bm) (LL : List Ld) (b a : Int) (kd : Nat) : Int :=
  if rigOk r.f0 r.f1 r.f2 PP BB LL = true then (if hasB PP.length b a BB.length = true ∧ kd ≤ 2 then (if LL.length < 20 then (if sfB r PP BB LL b a kd 0 = true then 0 else 9) else 3) else 2) else 1
def rmV (r : Rig) (PP : List Int) (BB : List Bm) (LL : List Ld) (b a : Int) (kd : Nat) : Int :=
  if rmE r PP BB LL b a kd = 0 then (bs (sfB r PP BB LL b a kd) 1000000 0 1000000 : Int) else 0
set_option maxHeartbeats 8000000 in
set_option maxRecDepth 100000 in
theorem Room_ok (r : Rig) (PP : List Int) (BB : List Bm) (LL : List Ld) (b a : Int) (kd : Nat) (w : World) (h : RigIn r PP BB LL w) (hnil : LL = [] → r.lo = none ∧ r.lc = 0) (hkd : kd ≤ 255) :
    Calls Try.prog 14 #[r.v, .agg #[iv b, iv a], .int .u8 kd] w fun e w' => e = .returned (.tuple #[iv (rmV r PP BB LL b a kd), iv (rmE r PP BB LL b a kd)]) ∧ Below w.heap.size w w' := by
  have hv := fun (w' : World) (hb : Below w.heap.size w w') => valid_ok r PP BB LL w' (h.below hb)
  have h78 := fun (w' : World) (n : Int) (hn : 0 ≤ n ∧ n ≤ 1000000) => has78_ok r b a n w' (by have := h.pn; have := h.pl; omega) hn
  have h79 := fun (hr : rigOk r.f0 r.f1 r.f2 PP BB LL = true) (hh : hasB PP.length b a BB.length = true) (hk : kd ≤ 2) (hl : LL.length < 20) (n : Int) (hn : 0 ≤ n ∧ n ≤ 1000000) (x y z : Nat) (tx ty tz : TypeId) (w' : World) (hb : Below w.heap.size w w') (hx : w'.heap[x]? = some (.cells r.cs.toArray tx (0, 0))) (hy : w'.heap[y]? = some (.cells #[iv b, iv a] ty (0, 0))) (hz : w'.heap[z]? = some (.cells #[.int .u8 kd] tz (0, 0))) =>
    Room1_ok r PP BB LL b a kd n ⟨x, 0, none⟩ ⟨y, 0, none⟩ ⟨z, 0, none⟩ w' (h.below hb) hr hnil
      (fun j v hj => by rw [own_add, Nat.zero_add, cell_of_row w' x _ _ tx (0, 0) hx, List.getElem?_toArray]; exact hj)
      (fun j v hj => by rw [own_add, Nat.zero_add, cell_of_row w' y _ _ ty (0, 0) hy]; simpa using hj)
      (fun j v hj => by rw [own_add, Nat.zero_add, cell_of_row w' z _ _ tz (0, 0) hz]; simpa using hj) hh hk hn hl
  have hpn := h.pn
  have hbn := h.bn
  have hln := h.ln
  have bl := h.bl
  have ll := h.ll
  unfold rmV
  generalize hE : rmE r PP BB LL b a kd = E
  unfold rmE at hE
  generalize hS : sfB r PP BB LL b a kd = S at *
  obtain ⟨po, pn, pc, bo, bn, bc, f0, f1, f2, lo, ln, lc⟩ := r
  dsimp only at hv h78 h79 hpn hbn hln hE
  subst hpn
  subst hbn
  subst hln
  have h78 := fun (w' : World) => h78 w' BB.length (by omega)
  refine calls_val env mixed Try.func14 has14 Try.ntmps14 [.agg #[.slice po PP.length pc, .slice bo BB.length bc, iv f0, iv f1, iv f2, .slice lo LL.length lc], .agg #[iv b, iv a], .int .u8 kd] (by simp) ?_
  cases hr : rigOk f0 f1 f2 PP BB LL with
  | false =>
    rw [hr] at hv
    rw [hr, if_neg (by simp)] at hE
    subst hE
    rw [if_neg (by omega)]
    repeat'
     conv => whnf
     first
      | refine zA ?_ | refine zB ?_ | refine zC ?_ | refine zD ?_ | refine zE ?_ | refine zF ?_ | refine zG ?_ | refine zH ?_ | refine zI ?_ | refine splT ?_ | refine splF ?_ | refine splNot ?_
      | ((first | refine splIn ?_ ?_ | refine splD ?_ ?_ | refine splE ?_ ?_ | refine splNE ?_ ?_) <;> intro hc <;> first | (exfalso; omega) | (exfalso; dsimp only at hc; omega) | skip)
      | ((with_reducible show CallEv _ _ 27 _ _ _ _ _); refine callE (k := 27) (fun β w' hbw => hv _ hbw) ?_)
    all_goals first | (exfalso; omega) | exact ⟨fun β => rfl, fun w' h => h⟩
  | true =>
    rw [hr] at hv
    rw [hr, if_pos rfl] at hE
    cases hh : hasB PP.length b a BB.length with
    | false =>
      rw [hh] at h78
      rw [hh, if_neg (by simp)] at hE
      subst hE
      rw [if_neg (by omega)]
      repeat'
       conv => whnf
       first
        | refine zA ?_ | refine zB ?_ | refine zC ?_ | refine zD ?_ | refine zE ?_ | refine zF ?_ | refine zG ?_ | refine zH ?_ | refine zI ?_ | refine splT ?_ | refine splF ?_ | refine splNot ?_
        | ((first | refine splIn ?_ ?_ | refine splD ?_ ?_ | refine splE ?_ ?_ | refine splNE ?_ ?_) <;> intro hc <;> first | (exfalso; omega) | (exfalso; dsimp only at hc; omega) | skip)
        | ((with_reducible show CallEv _ _ 27 _ _ _ _ _); refine callE (k := 27) (fun β w' hbw => hv _ hbw) ?_)
        | ((with_reducible show CallEv _ _ 39 _ _ _ _ _); refine callE (k := 39) (fun β w' hbw => h78 _) ?_)
      all_goals first | (exfalso; omega) | exact ⟨fun β => rfl, fun w' h => h⟩
    | true =>
      rw [hh] at h78 hE
      by_cases hk : kd ≤ 2
      case neg =>
        rw [if_neg (fun hc => hk hc.2)] at hE
        subst hE
        rw [if_neg (by omega)]
        repeat'
         conv => whnf
         first
          | refine zA ?_ | refine zB ?_ | refine zC ?_ | refine zD ?_ | refine zE ?_ | refine zF ?_ | refine zG ?_ | refine zH ?_ | refine zI ?_ | refine splT ?_ | refine splF ?_ | refine splNot ?_
          | ((first | refine splIn ?_ ?_ | refine splD ?_ ?_ | refine splE ?_ ?_ | refine splNE ?_ ?_) <;> intro hc <;> first | (exfalso; omega) | (exfalso; dsimp only at hc; omega) | skip)
          | ((with_reducible show CallEv _ _ 27 _ _ _ _ _); refine callE (k := 27) (fun β w' hbw => hv _ hbw) ?_)
          | ((with_reducible show CallEv _ _ 39 _ _ _ _ _); refine callE (k := 39) (fun β w' hbw => h78 _) ?_)
        all_goals first | (exfalso; omega) | exact ⟨fun β => rfl, fun w' h => h⟩
      rw [if_pos ⟨rfl, hk⟩] at hE
      by_cases hl : LL.length < 20
      case neg =>
        rw [if_neg hl] at hE
        subst hE
        rw [if_neg (by omega)]
        repeat'
         conv => whnf
         first
          | refine zA ?_ | refine zB ?_ | refine zC ?_ | refine zD ?_ | refine zE ?_ | refine zF ?_ | refine zG ?_ | refine zH ?_ | refine zI ?_ | refine splT ?_ | refine splF ?_ | refine splNot ?_
          | ((first | refine splIn ?_ ?_ | refine splD ?_ ?_ | refine splE ?_ ?_ | refine splNE ?_ ?_) <;> intro hc <;> first | (exfalso; omega) | (exfalso; dsimp only at hc; omega) | skip)
          | ((with_reducible show CallEv _ _ 27 _ _ _ _ _); refine callE (k := 27) (fun β w' hbw => hv _ hbw) ?_)
          | ((with_reducible show CallEv _ _ 39 _ _ _ _ _); refine callE (k := 39) (fun β w' hbw => h78 _) ?_)
        all_goals first | (exfalso; omega) | exact ⟨fun β => rfl, fun w' h => h⟩
      rw [if_pos hl] at hE
      have h79 := h79 hr hh hk hl
      have h79z := h79 0 (by omega)
      cases hs : S 0 with
      | false =>
        rw [hs] at h79z
        rw [hs, if_neg (by simp)] at hE
        subst hE
        rw [if_neg (by omega)]
        repeat'
         conv => whnf
         first
          | refine zA ?_ | refine zB ?_ | refine zC ?_ | refine zD ?_ | refine zE ?_ | refine zF ?_ | refine zG ?_ | refine zH ?_ | refine zI ?_ | refine splT ?_ | refine splF ?_ | refine splNot ?_
          | ((first | refine splIn ?_ ?_ | refine splD ?_ ?_ | refine splE ?_ ?_ | refine splNE ?_ ?_) <;> intro hc <;> first | (exfalso; omega) | (exfalso; dsimp only at hc; omega) | skip)
          | ((with_reducible show CallEv _ _ 27 _ _ _ _ _); refine callE (k := 27) (fun β w' hbw => hv _ hbw) ?_)
          | ((with_reducible show CallEv _ _ 39 _ _ _ _ _); refine callE (k := 39) (fun β w' hbw => h78 _) ?_)
          | ((with_reducible show CallEv _ _ 40 _ _ _ _ _); refine callM (k := 40) [0, 1, 2] (fun β w' hbk hbw => h79z _ _ _ 41 43 5 w' hbw (hbk 0 (by simp) _ rfl) (hbk 1 (by simp) _ rfl) (hbk 2 (by simp) _ rfl)) ?_)
        all_goals first | (exfalso; omega) | exact ⟨fun β => rfl, fun w' h => h⟩
      | true =>
        rw [hs] at h79z
        rw [hs, if_pos rfl] at hE
        subst hE
        rw [if_pos rfl]
        repeat'
         conv => whnf
         first
          | refine zA ?_ | refine zB ?_ | refine zC ?_ | refine zD ?_ | refine zE ?_ | refine zF ?_ | refine zG ?_ | refine zH ?_ | refine zI ?_ | refine splT ?_ | refine splF ?_ | refine splNot ?_
          | ((first | refine splIn ?_ ?_ | refine splD ?_ ?_ | refine splE ?_ ?_ | refine splNE ?_ ?_) <;> intro hc <;> first | (exfalso; omega) | (exfalso; dsimp only at hc; omega) | skip)
          | ((with_reducible show CallEv _ _ 27 _ _ _ _ _); refine callE (k := 27) (fun β w' hbw => hv _ hbw) ?_)
          | ((with_reducible show CallEv _ _ 39 _ _ _ _ _); refine callE (k := 39) (fun β w' hbw => h78 _) ?_)
          | ((with_reducible show CallEv _ _ 40 _ _ _ _ _); refine callM (k := 40) [0, 1, 2] (fun β w' hbk hbw => h79z _ _ _ 41 43 5 w' hbw (hbk 0 (by simp) _ rfl) (hbk 1 (by simp) _ rfl) (hbk 2 (by simp) _ rfl)) ?_)
        all_goals first | (exfalso; omega) | skip
        refine loopN2 3 (fun (x y : Nat) => [(8, .fn (.func 40) [.ptr 0 0, .ptr 1 0, .ptr 2 0]), (9, .v (iv x)), (10, .v (iv y))]) (fun _ _ => [(0, .cells [.v (.slice po PP.length pc), .v (.slice bo BB.length bc), .v (iv f0), .v (iv f1), .v (iv f2), .v (.slice lo LL.length lc)] 41), (1, .cells [.v (iv b), .v (iv a)] 43), (2, .cells [.v (.int .u8 kd)] 5)])
          (fun x y => x ≤ y ∧ y ≤ 1000000 ∧ bs S 1000000 0 1000000 = bs S (y - x) x y) (fun x y => y - x) 0 1000000 ⟨by omega, by omega, rfl⟩ ⟨rfl, rfl, rfl, trivial⟩ ⟨rfl, rfl, rfl, trivial⟩ (fun _ _ _ => ⟨rfl, rfl⟩) ?_
        intro x y ⟨hx, hy, hR⟩
        rcases Nat.lt_or_ge x y with hxy | hxy
        · rw [bs_step S x y hxy] at hR
          have hm : ((x : Int) + y + 1) / 2 = (((x + y + 1) / 2 : Nat) : Int) := by omega
          obtain ⟨m, hmm⟩ : ∃ m : Nat, (x + y + 1) / 2 = m := ⟨_, rfl⟩
          rw [hmm] at hR hm
          have h79m := h79 m (by omega)
          cases hsm : S m <;> rw [hsm] at hR h79m
          · rw [if_neg (by simp)] at hR
            have hm1 : (m : Int) - 1 = ((m - 1 : Nat) : Int) := by omega
            repeat'
             conv => whnf
             first
              | refine zA ?_ | refine zB ?_ | refine zC ?_ | refine zD ?_ | refine zE ?_ | refine zF ?_ | refine zG ?_ | refine zH ?_ | refine zI ?_ | refine splT ?_ | refine splF ?_ | refine splNot ?_
              | ((first | refine splIn ?_ ?_ | refine splD ?_ ?_ | refine splE ?_ ?_ | refine splNE ?_ ?_) <;> intro hc <;> first | (exfalso; omega) | (exfalso; dsimp only at hc; omega) | skip)
              | (refine quoE (by omega) (by omega) (And.intro (by omega) (by omega)) ?_; rw [hm])
              | ((with_reducible show CallEv _ _ 40 _ _ _ _ _); refine callM (k := 40) [0, 1, 2] (fun β w' hbk hbw => h79m _ _ _ 41 43 5 w' hbw (hbk 0 (by simp) _ rfl) (hbk 1 (by simp) _ rfl) (hbk 2 (by simp) _ rfl)) ?_)
            all_goals first | (exfalso; omega) | exact ⟨x, m - 1, ⟨by omega, by omega, hR⟩, by omega, Ent.weak rfl ⟨rfl, rfl, by rw [← hm1]; rfl, trivial⟩ ⟨rfl, rfl, rfl, trivial⟩ fun _ h => h⟩
          · rw [if_pos rfl] at hR
            repeat'
             conv => whnf
             first
              | refine zA ?_ | refine zB ?_ | refine zC ?_ | refine zD ?_ | refine zE ?_ | refine zF ?_ | refine zG ?_ | refine zH ?_ | refine zI ?_ | refine splT ?_ | refine splF ?_ | refine splNot ?_
              | ((first | refine splIn ?_ ?_ | refine splD ?_ ?_ | refine splE ?_ ?_ | refine splNE ?_ ?_) <;> intro hc <;> first | (exfalso; omega) | (exfalso; dsimp only at hc; omega) | skip)
              | (refine quoE (by omega) (by omega) (And.intro (by omega) (by omega)) ?_; rw [hm])
              | ((with_reducible show CallEv _ _ 40 _ _ _ _ _); refine callM (k := 40) [0, 1, 2] (fun β w' hbk hbw => h79m _ _ _ 41 43 5 w' hbw (hbk 0 (by simp) _ rfl) (hbk 1 (by simp) _ rfl) (hbk 2 (by simp) _ rfl)) ?_)
            all_goals first | (exfalso; omega) | exact ⟨m, y, ⟨by omega, by omega, hR⟩, by omega, Ent.weak rfl ⟨rfl, rfl, rfl, trivial⟩ ⟨rfl, rfl, rfl, trivial⟩ fun _ h => h⟩
        · rw [bs_done S _ x y (by omega)] at hR
          rw [hR]
          repeat'
           conv => whnf
           first
            | refine zA ?_ | refine zB ?_ | refine zC ?_ | refine zD ?_ | refine zE ?_ | refine zF ?_ | refine zG ?_ | refine zH ?_ | refine zI ?_ | refine splT ?_ | refine splF ?_ | refine splNot ?_
            | ((first | refine splIn ?_ ?_ | refine splD ?_ ?_ | refine splE ?_ ?_ | refine splNE ?_ ?_) <;> intro hc <;> first | (exfalso; omega) | (exfalso; dsimp only at hc; omega) | skip)
          all_goals first | (exfalso; omega) | exact ⟨fun β => rfl, fun w' h => h⟩
end Go.Proofs.Ytfbokllafdnglaa
namespace Go.Proofs.Ytfbokllafdnglaa
open Go Tx Go.RowKit
set_option linter.unusedSimpArgs false
set_option linter.unusedVariables false
theorem Rig_famN (r : Rig) (PP : List Int) (BB : List Bm) (LL : List Ld) (w : World) (h : RigIn r PP BB LL w) (hp : 1 ≤ PP.length) (hbm : BB.length ≤ 1000) (hlm : LL.length ≤ 1000) :
 Calls Try.prog 15 #[r.v] w fun e w' => ∃ y : { y : (Option Addr × Nat) × (Option Addr × Nat) × (Option Addr × Nat) // LL = [] → y.2.2 = (none, 0) }, e = .returned (nrV PP BB LL r.f0 r.f1 r.f2 y.1) ∧ Below w.heap.size w w' ∧ St w.heap.size (nrH PP BB LL y.1) w' := by
 cases PP with
 | nil => simp at hp
 | cons p0 PP =>
 refine (Rig_own r p0 PP BB LL w h hbm hlm).mono fun e w' ⟨γ, h1, h2, h3, _⟩ => ?_
 obtain ⟨m0, m1, m2⟩ := rigM_of 0 (p0 := p0) (PP := PP) (BB := BB) (LL := LL)
 have s0 := own_st (sz := 1) (f := iF) (fun _ => rfl) (h3 _ _ m0).1 rfl (h3 _ _ m0).2
 have s1 := fun h => own_st (sz := 8) (f := Bm.cs) (fun _ => rfl) (h3 _ _ (m1 h)).1 rfl (h3 _ _ (m1 h)).2
 have s2 := fun h => own_st (sz := 5) (f := Ld.cs) (fun _ => rfl) (h3 _ _ (m2 h)).1 rfl (h3 _ _ (m2 h)).2
 rw [h1]
 cases BB with
 | nil =>
  cases LL with
  | nil => exact ⟨⟨((some ⟨γ 0, 0, none⟩, γ 1), (none, 0), (none, 0)), fun _ => rfl⟩, rfl, h2, fun w2 k => ⟨s0 w2 k, .inl ⟨rfl, rfl⟩, .inl ⟨rfl, rfl⟩⟩⟩
  | cons l0 LL => exact ⟨⟨((some ⟨γ 0, 0, none⟩, γ 1), (none, 0), (some ⟨γ 4, 0, none⟩, γ 5)), fun hc => (by cases hc)⟩, rfl, h2, fun w2 k => ⟨s0 w2 k, .inl ⟨rfl, rfl⟩, s2 (by simp) w2 k⟩⟩
 | cons b0 BB =>
  cases LL with
  | nil => exact ⟨⟨((some ⟨γ 0, 0, none⟩, γ 1), (some ⟨γ 2, 0, none⟩, γ 3), (none, 0)), fun _ => rfl⟩, rfl, h2, fun w2 k => ⟨s0 w2 k, s1 (by simp) w2 k, .inl ⟨rfl, rfl⟩⟩⟩
  | cons l0 LL => exact ⟨⟨((some ⟨γ 0, 0, none⟩, γ 1), (some ⟨γ 2, 0, none⟩, γ 3), (some ⟨γ 4, 0, none⟩, γ 5)), fun hc => (by cases hc)⟩, rfl, h2, fun w2 k => ⟨s0 w2 k, s1 (by simp) w2 k, s2 (by simp) w2 k⟩⟩
theorem sfB_fac {r r' : Rig} (h : ∀ k, r.fac k = r'.fac k) (PP : List Int) (BB : List Bm) (LL : List Ld) (b a : Int) (kd : Nat) : sfB r PP BB LL b a kd = sfB r' PP BB LL b a kd := funext fun n => by
 unfold sfB sfW
 rw [ovO_fac h, slO_fac h]
theorem Room_nr (PP : List Int) (BB : List Bm) (LL : List Ld) (f0 f1 f2 : Int) (r : Rig) (hf : r.f0 = f0 ∧ r.f1 = f1 ∧ r.f2 = f2) (b a : Int) (kd : Nat) (hkd : kd ≤ 255) (y : (Option Addr × Nat) × (Option Addr × Nat) × (Option Addr × Nat)) (w : World) (h : nrH PP BB LL y w) (hnil : LL = [] → y.2.2 = (none, 0)) (h1 : PP.length ≤ 1000000) (h2 : BB.length ≤ 1000000) (h3 : LL.length ≤ 1000000) :
 Calls Try.prog 14 #[nrV PP BB LL f0 f1 f2 y, .agg #[iv b, iv a], .int .u8 kd] w fun e w' => e = .returned (.tuple #[iv (rmV r PP BB LL b a kd), iv (rmE r PP BB LL b a kd)]) ∧ Below w.heap.size w w' := by
 obtain ⟨e0, e1, e2⟩ := hf
 have hfa := fac_eq (r := nrR PP BB LL f0 f1 f2 y) (r' := r) e0.symm e1.symm e2.symm
 have q1 : rmE (nrR PP BB LL f0 f1 f2 y) PP BB LL b a kd = rmE r PP BB LL b a kd := by
  unfold rmE
  rw [sfB_fac hfa, e0, e1, e2]
 have q2 : rmV (nrR PP BB LL f0 f1 f2 y) PP BB LL b a kd = rmV r PP BB LL b a kd := by
  unfold rmV
  rw [q1, sfB_fac hfa]
 have := Room_ok (nrR PP BB LL f0 f1 f2 y) PP BB LL b a kd w (h.rin h1 h2 h3) (fun hl => by have := hnil hl; exact ⟨congrArg Prod.fst this, congrArg Prod.snd this⟩) hkd
 rw [q1, q2] at this
 exact this
theorem rmE_cases {r : Rig} {PP : List Int} {BB : List Bm} {LL : List Ld} {b a : Int} {kd : Nat} (hr : rigOk r.f0 r.f1 r.f2 PP BB LL = true) (hl : LL.length ≤ 19) : (rmE r PP BB LL b a kd = 2 ∧ rmV r PP BB LL b a kd = 0) ∨ (rmE r PP BB LL b a kd = 9 ∧ rmV r PP BB LL b a kd = 0) ∨ (rmE r PP BB LL b a kd = 0 ∧ hasB PP.length b a BB.length = true ∧ kd ≤ 2 ∧
 ∃ v : Nat, rmV r PP BB LL b a kd = v ∧ v ≤ 1000000 ∧ sfB r PP BB LL b a kd v = true ∧ (v = 1000000 ∨ sfB r PP BB LL b a kd ((v + 1 : Nat) : Int) = false)) := by
 unfold rmV
 unfold rmE
 rw [if_pos hr]
 by_cases hh : hasB PP.length b a BB.length = true ∧ kd ≤ 2
 · rw [if_pos hh, if_pos (by omega)]
   by_cases hs : sfB r PP BB LL b a kd 0 = true
   · rw [if_pos hs, if_pos rfl]
     have := bs_spec (sfB r PP BB LL b a kd) 1000000 1000000 0 1000000 (by omega) (by omega) (by omega) hs (.inl rfl)
     exact .inr (.inr ⟨rfl, hh.1, hh.2, _, rfl, this.2.1, this.2.2.1, this.2.2.2⟩)
   · rw [if_neg hs, if_neg (by omega)]
     exact .inr (.inl ⟨rfl, rfl⟩)
 · rw [if_neg hh, if_neg (by omega)]
   exact .inl ⟨rfl, rfl⟩
theorem Wk_e {W : Wk} : (W.e true = 7 ↔ W.isNone = true) ∧ (W.e true = 7 ∨ W.e true = 0) := by
 cases W <;> simp [Wk.e]
end Go.Proofs.Ytfbokllafdnglaa
namespace Go.Proofs.Ytfbokllafdnglaa
open Go Tx Go.RowKit
set_option linter.unusedVariables false
theorem wf32 {a : Int} (h : (Lit.int .u32 a).wf = true) : 0 ≤ a ∧ a ≤ 4294967295 := by
 simp [Lit.wf, IntKind.min, IntKind.max, IntKind.bits, IntKind.signed] at h; omega
def shW : Shp := .int .u16
theorem op_w {w : World} {es : List Value} (h : shW.rd w es) : ∃ n : Int, es = [.int .u16 n] ∧ 0 ≤ n ∧ n ≤ 65535 := by
 simp only [shW, Shp.rd] at h
 obtain ⟨n, rfl, g⟩ := h
 exact ⟨n, rfl, wf16 g⟩
end Go.Proofs.Ytfbokllafdnglaa
