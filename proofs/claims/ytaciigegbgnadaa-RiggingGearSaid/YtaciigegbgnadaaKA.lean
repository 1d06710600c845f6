/- RiggingGear answers true. By KA.py. -/
import Derived.Test.YtaciigegbgnadaaJZ
import Derived.Test.YtaciigegbgnadaaIF
import Derived.Test.YtaciigegbgnadaaJE
namespace Go.Proofs.Ytaciigegbgnadaa
open Go Tx Go.RowKit
set_option linter.unusedSimpArgs false
set_option linter.unusedVariables false

set_option maxHeartbeats 1000000 in
set_option maxRecDepth 100000 in
theorem Log_own (A : List En) (o : Option Addr) (c : Nat) (w : World) (hrd : Rd 4 En.cs (.slice o A.length c) A w) (hl : A.length ≤ 1000000) (hne : A ≠ []) :
    Calls Try.prog 19 #[.slice o A.length c] w fun e w' => ∃ b c, e = .returned (.slice (some ⟨b, 0, none⟩) A.length c) ∧ w.heap.size ≤ b ∧ Below w.heap.size w w' ∧ w'.ownsRow 0 75 4 (.slice (some ⟨b, 0, none⟩) A.length c) A.length (A.flatMap En.cs) := by
  refine calls_fam2 env mixed Try.func19 has19 Try.ntmps19 [.slice o A.length c] (by simp) ?_
  repeat'
   conv => whnf
   first
    | refine zA ?_ | refine zB ?_ | refine zC ?_ | refine zD ?_ | refine zE ?_ | refine zF ?_ | refine zG ?_ | refine zH ?_ | refine zJ ?_ | refine zI ?_ | refine splT ?_ | refine splF ?_ | refine splNot ?_
    | ((first | refine splIn (fun hc => ?_) (fun hc => ?_) | refine splD (fun hc => ?_) (fun hc => ?_) | refine splE (fun hc => ?_) (fun hc => ?_) | refine splNE (fun hc => ?_) (fun hc => ?_)) <;> first | (exfalso; omega) | (exfalso; dsimp only at hc; omega) | skip)
  refine loopN 2 (fun k : Nat => [(0, .v (.slice o A.length c)), (3, oSV 0 1 (A.take k)), (4, .v (iv k))]) (fun k => oM 0 1 4 En.cs 75 (A.take k))
    (fun k => k ≤ A.length) (fun k => A.length - k) 0 (Nat.zero_le _) ⟨rfl, rfl, rfl, trivial⟩ trivial (fun k _ => by cases A.take k <;> exact ⟨rfl, rfl⟩) ?_
  intro k hk
  rcases Nat.lt_or_ge k A.length with hkl | hkl
  · obtain ⟨x, hx⟩ : ∃ b, A[k]? = some b := ⟨_, List.getElem?_eq_getElem hkl⟩
    obtain ⟨_, ad, rfl, _⟩ := hrd.ptr (by omega)
    have e1 := fun (w' : World) hw' => rd_fld (hrd.below (w' := w') hw') hx
    have ht : A.take (k + 1) = A.take k ++ [x] := by rw [List.take_add_one, hx]; rfl
    have hlen : (A.take k).length = k := by rw [List.length_take]; omega
    generalize A.take k = L at *
    cases L with
    | nil =>
      repeat'
       conv => whnf
       first
        | refine zA ?_ | refine zB ?_ | refine zC ?_ | refine zD ?_ | refine zE ?_ | refine zF ?_ | refine zG ?_ | refine zH ?_ | refine zJ ?_ | refine zI ?_ | refine splT ?_ | refine splF ?_ | refine splNot ?_
        | ((first | refine splIn (fun hc => ?_) (fun hc => ?_) | refine splD (fun hc => ?_) (fun hc => ?_) | refine splE (fun hc => ?_) (fun hc => ?_) | refine splNE (fun hc => ?_) (fun hc => ?_)) <;> first | (exfalso; omega) | (exfalso; dsimp only at hc; omega) | skip)
        | refine Exists.intro (α := List Value) [iv x.day] ⟨⟨rfl, fun w' hw' => e1 w' hw' 0 _ rfl⟩, ?_⟩
        | refine Exists.intro (α := List Value) [iv x.num] ⟨⟨rfl, fun w' hw' => e1 w' hw' 1 _ rfl⟩, ?_⟩
        | refine Exists.intro (α := List Value) [iv x.hrs] ⟨⟨rfl, fun w' hw' => e1 w' hw' 2 _ rfl⟩, ?_⟩
        | refine Exists.intro (α := List Value) [.bool x.chk] ⟨⟨rfl, fun w' hw' => e1 w' hw' 3 _ rfl⟩, ?_⟩
      exact ⟨k + 1, by omega, by omega, Ent.ren (rho [(0, 3), (1, 4)]) rfl (by rw [ht]; rfl) ⟨rfl, by rw [ht]; rfl, rfl, trivial⟩ (by rw [ht]; exact ⟨rfl, trivial⟩) fun _ h => h⟩
    | cons a L =>
      simp only [List.length_cons] at hlen
      repeat'
       conv => whnf
       first
        | refine zA ?_ | refine zB ?_ | refine zC ?_ | refine zD ?_ | refine zE ?_ | refine zF ?_ | refine zG ?_ | refine zH ?_ | refine zJ ?_ | refine zI ?_ | refine splT ?_ | refine splF ?_ | refine splNot ?_
        | ((first | refine splIn (fun hc => ?_) (fun hc => ?_) | refine splD (fun hc => ?_) (fun hc => ?_) | refine splE (fun hc => ?_) (fun hc => ?_) | refine splNE (fun hc => ?_) (fun hc => ?_)) <;> first | (exfalso; omega) | (exfalso; dsimp only at hc; omega) | skip)
        | refine Exists.intro (α := List Value) [iv x.day] ⟨⟨rfl, fun w' hw' => e1 w' hw' 0 _ rfl⟩, ?_⟩
        | refine Exists.intro (α := List Value) [iv x.num] ⟨⟨rfl, fun w' hw' => e1 w' hw' 1 _ rfl⟩, ?_⟩
        | refine Exists.intro (α := List Value) [iv x.hrs] ⟨⟨rfl, fun w' hw' => e1 w' hw' 2 _ rfl⟩, ?_⟩
        | refine Exists.intro (α := List Value) [.bool x.chk] ⟨⟨rfl, fun w' hw' => e1 w' hw' 3 _ rfl⟩, ?_⟩
      exact ⟨k + 1, by omega, by omega, Ent.ren (rho [(0, 3), (1, 4)]) rfl (by rw [ht]; rfl) ⟨rfl, by rw [ht]; simp [oSV]; rfl, rfl, trivial⟩ (by rw [ht]; exact ⟨by simp [oM]; rfl, trivial⟩) fun _ h => h⟩
  · obtain rfl : k = A.length := by omega
    rw [List.take_of_length_le (Nat.le_refl _)]
    cases A with
    | nil =>
      exact absurd rfl hne
    | cons a L =>
      repeat'
       conv => whnf
       first
        | refine zA ?_ | refine zB ?_ | refine zC ?_ | refine zD ?_ | refine zE ?_ | refine zF ?_ | refine zG ?_ | refine zH ?_ | refine zJ ?_ | refine zI ?_ | refine splT ?_ | refine splF ?_ | refine splNot ?_
        | ((first | refine splIn (fun hc => ?_) (fun hc => ?_) | refine splD (fun hc => ?_) (fun hc => ?_) | refine splE (fun hc => ?_) (fun hc => ?_) | refine splNE (fun hc => ?_) (fun hc => ?_)) <;> first | (exfalso; omega) | (exfalso; dsimp only at hc; omega) | skip)
      exact ⟨fun w' h => h, fun β w' hB hB2 hblk => ⟨β 0, β 1, rfl, (hblk 0 _ rfl rfl).1, hB2, (hblk 0 _ rfl rfl).2⟩⟩

set_option maxRecDepth 100000 in
theorem Log_nil (o : Option Addr) (c : Nat) (w : World) : Calls Try.prog 19 #[.slice o 0 c] w fun e w' => e = .returned (.slice none 0 0) ∧ Below w.heap.size w w' := by
  refine calls_val env mixed Try.func19 has19 Try.ntmps19 [.slice o 0 c] (by simp) ?_
  repeat'
   conv => whnf
   first
    | refine zA ?_ | refine zB ?_ | refine zC ?_ | refine zD ?_ | refine zE ?_ | refine zF ?_ | refine zG ?_ | refine zH ?_ | refine zJ ?_ | refine zI ?_ | refine splT ?_ | refine splF ?_ | refine splNot ?_
    | ((first | refine splIn (fun hc => ?_) (fun hc => ?_) | refine splD (fun hc => ?_) (fun hc => ?_) | refine splE (fun hc => ?_) (fun hc => ?_) | refine splNE (fun hc => ?_) (fun hc => ?_)) <;> first | (exfalso; omega) | (exfalso; dsimp only at hc; omega) | skip)
  refine loopN 0 (fun k : Nat => [(0, .v (.slice o 0 c)), (3, .v (.slice none 0 0)), (4, .v (iv 0))]) (fun _ => []) (fun _ => True) (fun _ => 0) 0 trivial ⟨rfl, rfl, rfl, trivial⟩ trivial (fun _ _ => ⟨rfl, rfl⟩) ?_
  intro k _
  repeat'
   conv => whnf
   first
    | refine zA ?_ | refine zB ?_ | refine zC ?_ | refine zD ?_ | refine zE ?_ | refine zF ?_ | refine zG ?_ | refine zH ?_ | refine zJ ?_ | refine zI ?_ | refine splT ?_ | refine splF ?_ | refine splNot ?_
    | ((first | refine splIn (fun hc => ?_) (fun hc => ?_) | refine splD (fun hc => ?_) (fun hc => ?_) | refine splE (fun hc => ?_) (fun hc => ?_) | refine splNE (fun hc => ?_) (fun hc => ?_)) <;> first | (exfalso; omega) | (exfalso; dsimp only at hc; omega) | skip)
  all_goals first | (exfalso; omega) | exact ⟨fun β => rfl, fun w' h => h⟩
theorem one4 (L : List En) : ∀ v ∈ L.flatMap En.cs, v.oneCell' = true := by
  intro v hv
  obtain ⟨l, _, h⟩ := List.mem_flatMap.1 hv
  simp only [En.cs, List.mem_cons, List.not_mem_nil, or_false] at h
  rcases h with rfl | rfl | rfl | rfl <;> rfl
theorem len4 (L : List En) : (L.flatMap En.cs).length = L.length * 4 := by
  induction L with
  | nil => rfl
  | cons a L ih => simp only [List.flatMap_cons, List.length_append, ih, List.length_cons, List.length_nil]; omega
theorem neqB' (a b : Bool) (x y : Operand) : RunIs Try.prog (do eqGuard .neq 4 x y (.bool a) (.bool b); binOp .neq 4 (.bool a) (.bool b)) (.bool (!(a == b))) := fun w => by
  have h := eqIn4 9999 a b w
  simp [eqGuard, binOp, Op.equal, Op.maxDepth, h]
theorem neqEBq {a b q : Bool} {x y : Operand} {K : Value → Prop} (hq : (!(a == b)) = q) (h : K (.bool q)) : ∃ v, (∀ _ : Nat → Nat, RunIs Try.prog (do eqGuard .neq 4 x y (.bool a) (.bool b); binOp .neq 4 (.bool a) (.bool b)) v) ∧ K v := by subst hq; exact ⟨_, fun _ => neqB' a b x y, h⟩

set_option maxHeartbeats 8000000 in
set_option maxRecDepth 100000 in
theorem GearC (G : List (Int × Int)) (L : List En) (go lo : Option Addr) (gc lc : Nat) (w : World) (hG : Rd 2 gF (.slice go G.length gc) G w) (hL : Rd 4 En.cs (.slice lo L.length lc) L w) (he : lgE G L = 0) (hl : L.length ≤ 150) (k : Nat) (g : Int × Int) (hg : G[k]? = some g) (d h : Int) (hd : 0 ≤ d ∧ d ≤ 9000) (hh : 0 ≤ h ∧ h ≤ 24) (yb : Option Addr × Nat) (N : Nat) (hN : N ≤ 40) (hun : ∀ i : Nat, i ≤ 40 → i ≤ N → lgE G (thL (lbf L d) d k h (i + 1)) = 0 ∧ (staR G (thL (lbf L d) d k h (i + 1)) (d + i)).contains (k : Int) = decide (i = N)) :
    VC Try.prog (rest 4 (rest 2 (rest 2 (rest 5 body6)))) ⟨201, [(0, .v (.slice go G.length gc)), (13, .v (iv k)), (14, .v (iv d)), (15, .v (iv h)), (16, .v (sV (lbf L d).length yb)), (25, .v (iv (d + N)))], [], 0, fun w2 => Below w.heap.size w w2 ∧ Rd 4 En.cs (sV (lbf L d).length yb) (lbf L d) w2, z0⟩ (endΦ env Try.f6 fun s σ => (∀ β, s.c β = .bool true) ∧ ∀ w', σ.h w' → Below w.heap.size w w') := by
  refine VC.of env mixed ?_
  have hGl : G.length ≤ 1000000 := by have := (lgE_ok he).1; omega
  have hbl := lbf_len L d
  have hkG := (List.getElem?_eq_some_iff.1 hg).1
  have hTl := fun i => thL_len (d := d) (k := k) (h := h) (lbf L d) i
  have h32 := fun (A : List Int) (o : Option Addr) (c : Nat) (w' : World) (hA : A.length ≤ 1000000) (h : Rd 1 iF (.slice o A.length c) A w') => has_ok A k o c w' h hA
  have hsl : ∀ (L' : List En) (x : Int), (staR G L' x).length ≤ 1000000 := fun L' x => by
    unfold staR
    split
    · have := staL_len G L' x G.length; omega
    · simp
  have h17 := fun (L' : List En) (o p : Option Addr) (c d' : Nat) (x : Int) (w' : World) (h1 : Rd 2 gF (.slice o G.length c) G w') (h2 : Rd 4 En.cs (.slice p L'.length d') L' w') (h3 : L'.length ≤ 1000000) => Stale_ok G L' o p c d' x w' h1 h2 hGl h3
  obtain ⟨yb1, yb2⟩ := yb
  have hT0 : thL (lbf L d) d k h 0 = lbf L d := rfl
  have hlogo := fun (hne : lbf L d ≠ []) (w' : World) (h : Rd 4 En.cs (.slice yb1 (lbf L d).length yb2) (lbf L d) w') => Log_own (lbf L d) yb1 yb2 w' h (by omega) hne
  have hlogn := fun (w' : World) => Log_nil yb1 yb2 w'
  generalize lbf L d = Lb at *
  obtain ⟨T, hT⟩ : ∃ T : Nat → List En, thL Lb d k h = T := ⟨_, rfl⟩
  rw [hT] at hT0
  have hts : ∀ i : Nat, T (i + 1) = T i ++ [(⟨d + i, k, h, false⟩ : En)] := fun i => by rw [← hT]; rfl
  simp only [hT] at hun hTl
  clear hT
  by_cases hne : Lb = []
  · subst hne
    repeat'
     conv => whnf
     first
      | refine zA ?_ | refine zB ?_ | refine zC ?_ | refine zD ?_ | refine zE ?_ | refine zF ?_ | refine zG ?_ | refine zH ?_ | refine zJ ?_ | refine zI ?_ | refine splT ?_ | refine splF ?_ | refine splNot ?_
      | ((first | refine splIn (fun hc => ?_) (fun hc => ?_) | refine splD (fun hc => ?_) (fun hc => ?_) | refine splE (fun hc => ?_) (fun hc => ?_) | refine splNE (fun hc => ?_) (fun hc => ?_)) <;> first | (exfalso; omega) | (exfalso; dsimp only at hc; omega) | skip)
      | ((with_reducible show CallEv _ _ 19 _ _ _ _ _); refine callE (k := 19) (fun β w' hbw => hlogn _) ?_)
    refine loopN 2 (fun i : Nat => [(0, .v (.slice go G.length gc)), (13, .v (iv k)), (14, .v (iv d)), (15, .v (iv h)), (25, .v (iv (d + N))), (27, oSV 0 1 (T i)), (28, .v (iv (d + i)))]) (fun i => oM 0 1 4 En.cs 75 (T i)) (fun i => i ≤ N + 1) (fun i => N + 1 - i) 0 (Nat.zero_le _) ⟨rfl, rfl, rfl, rfl, rfl, by rw [hT0]; rfl, by rw [Int.natCast_zero, Int.add_zero]; rfl, trivial⟩ (by rw [hT0]; trivial) (fun i _ => by cases T i <;> exact ⟨rfl, rfl⟩) ?_
    intro i hi
    rcases Nat.lt_or_ge N i with hiN | hiN
    · cases T i
      all_goals skip
      repeat'
       conv => whnf
       first
        | refine zA ?_ | refine zB ?_ | refine zC ?_ | refine zD ?_ | refine zE ?_ | refine zF ?_ | refine zG ?_ | refine zH ?_ | refine zJ ?_ | refine zI ?_ | refine splT ?_ | refine splF ?_ | refine splNot ?_
        | ((first | refine splIn (fun hc => ?_) (fun hc => ?_) | refine splD (fun hc => ?_) (fun hc => ?_) | refine splE (fun hc => ?_) (fun hc => ?_) | refine splNE (fun hc => ?_) (fun hc => ?_)) <;> first | (exfalso; omega) | (exfalso; dsimp only at hc; omega) | skip)
        | ((with_reducible show CallEv _ _ 16 _ _ _ _ _); refine callE (k := 16) (fun β w' hbw => awake_ok _) ?_)
      all_goals first | (exfalso; omega) | exact ⟨fun β => rfl, fun w' h => h.1⟩
    obtain ⟨q1, q2⟩ := hun i (by omega) hiN
    have hli := hTl i
    have hli1 := hTl (i + 1)
    have ht := hts i
    have hs17 := h17 (T (i + 1))
    obtain ⟨A, hA⟩ : ∃ A, staR G (T (i + 1)) (d + i) = A := ⟨_, rfl⟩
    have hAl : A.length ≤ 1000000 := by rw [← hA]; exact hsl _ _
    have hs17 := fun (o p : Option Addr) (c d' : Nat) (w' : World) h1 h2 h3 => hs17 o p c d' (d + i) w' h1 h2 h3
    have hE : staE G (T (i + 1)) (d + i) = 0 := by unfold staE; rw [if_pos q1, if_pos (by omega)]
    simp only [hA, hE] at hs17
    rw [hA] at q2
    have h32 := h32 A
    rw [q2] at h32
    have hfl : ∀ L0 : List En, L0.flatMap En.cs ++ [iv (d + i), iv k, iv h, .bool false] = (L0 ++ [(⟨d + i, k, h, false⟩ : En)]).flatMap En.cs := fun L0 => by rw [List.flatMap_append]; simp
    have hdi : d + ((i + 1 : Nat) : Int) = d + i + 1 := by omega
    have hq : ((!(decide (i = N) == (d + (i : Int) == d + (N : Int))))) = false := by
      by_cases hiN' : i = N
      · subst hiN'; simp
      · rw [decide_eq_false hiN']
        have : (d + (i : Int) == d + (N : Int)) = false := by simpa using (by omega : ¬ d + (i : Int) = d + N)
        rw [this]; rfl
    have hT2 : (T (i + 1)).length ≤ 200 := by rw [hli1]; omega
    clear hun hts
    cases hTi : T i with
    | nil =>
      rw [hTi] at ht
      rw [ht] at hs17 hT2
      dsimp only [List.nil_append, List.length_cons, List.length_nil] at hs17
      have hx2 : ∀ v ∈ [iv (d + i), iv k, iv h, .bool false], v.oneCell' = true := fun v hv => by
        simp only [List.mem_cons, List.not_mem_nil, or_false] at hv
        rcases hv with rfl | rfl | rfl | rfl <;> rfl
      repeat'
       conv => whnf
       first
        | refine zA ?_ | refine zB ?_ | refine zC ?_ | refine zD ?_ | refine zE ?_ | refine zF ?_ | refine zG ?_ | refine zH ?_ | refine zJ ?_ | refine zI ?_ | refine splT ?_ | refine splF ?_ | refine splNot ?_
        | ((first | refine splIn (fun hc => ?_) (fun hc => ?_) | refine splD (fun hc => ?_) (fun hc => ?_) | refine splE (fun hc => ?_) (fun hc => ?_) | refine splNE (fun hc => ?_) (fun hc => ?_)) <;> first | (exfalso; omega) | (exfalso; dsimp only at hc; omega) | skip)
        | ((with_reducible show CallEv _ _ 18 _ _ _ _ _); refine callF [] (fun z : Option Addr × Nat => sV G.length z) (fun z => Rd 2 gF (sV G.length z) G) (fun β w' _ hbw => Gears_ok G go gc w' (hG.below (by first | exact hbw | exact hbw.1 | exact hbw.1.1 | exact hbw.1.1.1 | exact hbw.1.1.1.1 | exact hbw.1.1.1.1.1 | exact hbw.1.1.1.1.1.1 | exact hbw.1.1.1.1.1.1.1)) hGl) ?_; intro zg; obtain ⟨zg1, zg2⟩ := zg; dsimp only)
        | refine And.intro (a := Nat.beq _ _ = true ∧ _ ∧ _) ⟨rfl, rfl, hx2⟩ ?_
        | ((with_reducible show CallEv _ _ 17 _ _ _ _ _); refine callF [5] (fun z : Option Addr × Nat => .tuple #[sV A.length z, iv 0]) (fun z => Rd 1 iF (sV A.length z) A) (fun β w' hbk hbw => hs17 _ _ _ _ w' hbw.2 (Rd.of_owns (sz := 4) (f := En.cs) (fun _ => rfl) rfl rfl (hbk 5 (by simp) _ rfl)) (by decide)) ?_; intro z; obtain ⟨z1, z2⟩ := z; dsimp only)
        | ((with_reducible show CallEv _ _ 32 _ _ _ _ _); refine callE (k := 32) (fun β w' hbw => h32 _ _ _ hAl hbw.2) ?_)
        | refine neqEBq hq ?_
      all_goals first | (exfalso; omega) | exact ⟨i + 1, by omega, by omega, Ent.ren (rho [(0, 3), (1, 4)]) rfl (by rw [ht]; rfl) ⟨rfl, rfl, rfl, rfl, rfl, by rw [ht]; rfl, by rw [hdi]; rfl, trivial⟩ (by rw [ht]; exact ⟨rfl, trivial⟩) fun _ h => ⟨h.1.1.1, h.1.1.2⟩⟩
    | cons a L0 =>
      rw [hTi] at ht hli
      simp only [List.length_cons] at hli
      rw [ht] at hs17 hT2
      simp only [List.length_append, List.length_cons, List.length_nil, Nat.zero_add] at hs17 hT2
      rw [← Nat.zero_add (L0.length + 1 + 1)] at hs17
      have hx1 : ((a :: L0).flatMap En.cs ++ [iv (d + i), iv k, iv h, .bool false]).length = (L0.length + 1 + 1) * 4 := by rw [List.length_append, len4]; simp only [List.length_cons, List.length_nil]; omega
      have hx2 : ∀ v ∈ (a :: L0).flatMap En.cs ++ [iv (d + i), iv k, iv h, .bool false], v.oneCell' = true := by rw [hfl]; exact one4 _
      repeat'
       conv => whnf
       first
        | refine zA ?_ | refine zB ?_ | refine zC ?_ | refine zD ?_ | refine zE ?_ | refine zF ?_ | refine zG ?_ | refine zH ?_ | refine zJ ?_ | refine zI ?_ | refine splT ?_ | refine splF ?_ | refine splNot ?_
        | ((first | refine splIn (fun hc => ?_) (fun hc => ?_) | refine splD (fun hc => ?_) (fun hc => ?_) | refine splE (fun hc => ?_) (fun hc => ?_) | refine splNE (fun hc => ?_) (fun hc => ?_)) <;> first | (exfalso; omega) | (exfalso; dsimp only at hc; omega) | skip)
        | ((with_reducible show CallEv _ _ 18 _ _ _ _ _); refine callF [] (fun z : Option Addr × Nat => sV G.length z) (fun z => Rd 2 gF (sV G.length z) G) (fun β w' _ hbw => Gears_ok G go gc w' (hG.below (by first | exact hbw | exact hbw.1 | exact hbw.1.1 | exact hbw.1.1.1 | exact hbw.1.1.1.1 | exact hbw.1.1.1.1.1 | exact hbw.1.1.1.1.1.1 | exact hbw.1.1.1.1.1.1.1)) hGl) ?_; intro zg; obtain ⟨zg1, zg2⟩ := zg; dsimp only)
        | refine And.intro (a := Nat.beq _ _ = true ∧ _ ∧ _) ⟨Nat.beq_refl _, hx1, hx2⟩ ?_
        | ((with_reducible show CallEv _ _ 17 _ _ _ _ _); refine callF [5] (fun z : Option Addr × Nat => .tuple #[sV A.length z, iv 0]) (fun z => Rd 1 iF (sV A.length z) A) (fun β w' hbk hbw => hs17 _ _ _ _ w' hbw.2 (Rd.of_owns (sz := 4) (f := En.cs) (fun _ => rfl) (hfl (a :: L0)) (by simp) (hbk 5 (by simp) _ rfl)) (by omega)) ?_; intro z; obtain ⟨z1, z2⟩ := z; dsimp only)
        | ((with_reducible show CallEv _ _ 32 _ _ _ _ _); refine callE (k := 32) (fun β w' hbw => h32 _ _ _ hAl hbw.2) ?_)
        | refine neqEBq hq ?_
      all_goals first | (exfalso; omega) | exact ⟨i + 1, by omega, by omega, Ent.ren (rho [(0, 3), (1, 4)]) rfl (by rw [ht]; rfl) ⟨rfl, rfl, rfl, rfl, rfl, by rw [ht]; simp [oSV]; rfl, by rw [hdi]; rfl, trivial⟩ (by rw [ht]; exact ⟨by simp [oM]; rfl, trivial⟩) fun _ h => ⟨h.1.1.1, h.1.1.2⟩⟩
  · obtain ⟨b0, L1, rfl⟩ : ∃ b0 L1, Lb = b0 :: L1 := by cases Lb with | nil => exact absurd rfl hne | cons b L1 => exact ⟨b, L1, rfl⟩
    have hlogo := hlogo hne
    repeat'
     conv => whnf
     first
      | refine zA ?_ | refine zB ?_ | refine zC ?_ | refine zD ?_ | refine zE ?_ | refine zF ?_ | refine zG ?_ | refine zH ?_ | refine zJ ?_ | refine zI ?_ | refine splT ?_ | refine splF ?_ | refine splNot ?_
      | ((first | refine splIn (fun hc => ?_) (fun hc => ?_) | refine splD (fun hc => ?_) (fun hc => ?_) | refine splE (fun hc => ?_) (fun hc => ?_) | refine splNE (fun hc => ?_) (fun hc => ?_)) <;> first | (exfalso; omega) | (exfalso; dsimp only at hc; omega) | skip)
      | ((with_reducible show CallEv _ _ 19 _ _ _ _ _); refine callO 0 [] (.os 0 1 (L1.length + 1)) (L1.length + 1) 4 ((b0 :: L1).flatMap En.cs) 75 rfl (fun β w' _ hbw => (hlogo w' hbw.2).mono fun _ _ ⟨b, c, h1, h2, h3, h4⟩ => ⟨b, c, h1, h2, h3, h4⟩) ?_)
    refine loopN 2 (fun i : Nat => [(0, .v (.slice go G.length gc)), (13, .v (iv k)), (14, .v (iv d)), (15, .v (iv h)), (25, .v (iv (d + N))), (27, oSV 0 1 (T i)), (28, .v (iv (d + i)))]) (fun i => oM 0 1 4 En.cs 75 (T i)) (fun i => i ≤ N + 1) (fun i => N + 1 - i) 0 (Nat.zero_le _) ⟨rfl, rfl, rfl, rfl, rfl, by rw [hT0]; rfl, by rw [Int.natCast_zero, Int.add_zero]; rfl, trivial⟩ (by rw [hT0]; exact ⟨rfl, trivial⟩) (fun i _ => by cases T i <;> exact ⟨rfl, rfl⟩) ?_
    intro i hi
    rcases Nat.lt_or_ge N i with hiN | hiN
    · cases T i
      all_goals skip
      repeat'
       conv => whnf
       first
        | refine zA ?_ | refine zB ?_ | refine zC ?_ | refine zD ?_ | refine zE ?_ | refine zF ?_ | refine zG ?_ | refine zH ?_ | refine zJ ?_ | refine zI ?_ | refine splT ?_ | refine splF ?_ | refine splNot ?_
        | ((first | refine splIn (fun hc => ?_) (fun hc => ?_) | refine splD (fun hc => ?_) (fun hc => ?_) | refine splE (fun hc => ?_) (fun hc => ?_) | refine splNE (fun hc => ?_) (fun hc => ?_)) <;> first | (exfalso; omega) | (exfalso; dsimp only at hc; omega) | skip)
        | ((with_reducible show CallEv _ _ 16 _ _ _ _ _); refine callE (k := 16) (fun β w' hbw => awake_ok _) ?_)
      all_goals first | (exfalso; omega) | exact ⟨fun β => rfl, fun w' h => h.1⟩
    obtain ⟨q1, q2⟩ := hun i (by omega) hiN
    have hli := hTl i
    have hli1 := hTl (i + 1)
    have ht := hts i
    have hs17 := h17 (T (i + 1))
    obtain ⟨A, hA⟩ : ∃ A, staR G (T (i + 1)) (d + i) = A := ⟨_, rfl⟩
    have hAl : A.length ≤ 1000000 := by rw [← hA]; exact hsl _ _
    have hs17 := fun (o p : Option Addr) (c d' : Nat) (w' : World) h1 h2 h3 => hs17 o p c d' (d + i) w' h1 h2 h3
    have hE : staE G (T (i + 1)) (d + i) = 0 := by unfold staE; rw [if_pos q1, if_pos (by omega)]
    simp only [hA, hE] at hs17
    rw [hA] at q2
    have h32 := h32 A
    rw [q2] at h32
    have hfl : ∀ L0 : List En, L0.flatMap En.cs ++ [iv (d + i), iv k, iv h, .bool false] = (L0 ++ [(⟨d + i, k, h, false⟩ : En)]).flatMap En.cs := fun L0 => by rw [List.flatMap_append]; simp
    have hdi : d + ((i + 1 : Nat) : Int) = d + i + 1 := by omega
    have hq : ((!(decide (i = N) == (d + (i : Int) == d + (N : Int))))) = false := by
      by_cases hiN' : i = N
      · subst hiN'; simp
      · rw [decide_eq_false hiN']
        have : (d + (i : Int) == d + (N : Int)) = false := by simpa using (by omega : ¬ d + (i : Int) = d + N)
        rw [this]; rfl
    have hT2 : (T (i + 1)).length ≤ 200 := by rw [hli1]; omega
    clear hun hts
    cases hTi : T i with
    | nil =>
      rw [hTi] at ht
      rw [ht] at hs17 hT2
      dsimp only [List.nil_append, List.length_cons, List.length_nil] at hs17
      have hx2 : ∀ v ∈ [iv (d + i), iv k, iv h, .bool false], v.oneCell' = true := fun v hv => by
        simp only [List.mem_cons, List.not_mem_nil, or_false] at hv
        rcases hv with rfl | rfl | rfl | rfl <;> rfl
      repeat'
       conv => whnf
       first
        | refine zA ?_ | refine zB ?_ | refine zC ?_ | refine zD ?_ | refine zE ?_ | refine zF ?_ | refine zG ?_ | refine zH ?_ | refine zJ ?_ | refine zI ?_ | refine splT ?_ | refine splF ?_ | refine splNot ?_
        | ((first | refine splIn (fun hc => ?_) (fun hc => ?_) | refine splD (fun hc => ?_) (fun hc => ?_) | refine splE (fun hc => ?_) (fun hc => ?_) | refine splNE (fun hc => ?_) (fun hc => ?_)) <;> first | (exfalso; omega) | (exfalso; dsimp only at hc; omega) | skip)
        | ((with_reducible show CallEv _ _ 18 _ _ _ _ _); refine callF [] (fun z : Option Addr × Nat => sV G.length z) (fun z => Rd 2 gF (sV G.length z) G) (fun β w' _ hbw => Gears_ok G go gc w' (hG.below (by first | exact hbw | exact hbw.1 | exact hbw.1.1 | exact hbw.1.1.1 | exact hbw.1.1.1.1 | exact hbw.1.1.1.1.1 | exact hbw.1.1.1.1.1.1 | exact hbw.1.1.1.1.1.1.1)) hGl) ?_; intro zg; obtain ⟨zg1, zg2⟩ := zg; dsimp only)
        | refine And.intro (a := Nat.beq _ _ = true ∧ _ ∧ _) ⟨rfl, rfl, hx2⟩ ?_
        | ((with_reducible show CallEv _ _ 17 _ _ _ _ _); refine callF [5] (fun z : Option Addr × Nat => .tuple #[sV A.length z, iv 0]) (fun z => Rd 1 iF (sV A.length z) A) (fun β w' hbk hbw => hs17 _ _ _ _ w' hbw.2 (Rd.of_owns (sz := 4) (f := En.cs) (fun _ => rfl) rfl rfl (hbk 5 (by simp) _ rfl)) (by decide)) ?_; intro z; obtain ⟨z1, z2⟩ := z; dsimp only)
        | ((with_reducible show CallEv _ _ 32 _ _ _ _ _); refine callE (k := 32) (fun β w' hbw => h32 _ _ _ hAl hbw.2) ?_)
        | refine neqEBq hq ?_
      all_goals first | (exfalso; omega) | exact ⟨i + 1, by omega, by omega, Ent.ren (rho [(0, 3), (1, 4)]) rfl (by rw [ht]; rfl) ⟨rfl, rfl, rfl, rfl, rfl, by rw [ht]; rfl, by rw [hdi]; rfl, trivial⟩ (by rw [ht]; exact ⟨rfl, trivial⟩) fun _ h => ⟨h.1.1.1, h.1.1.2⟩⟩
    | cons a L0 =>
      rw [hTi] at ht hli
      simp only [List.length_cons] at hli
      rw [ht] at hs17 hT2
      simp only [List.length_append, List.length_cons, List.length_nil, Nat.zero_add] at hs17 hT2
      rw [← Nat.zero_add (L0.length + 1 + 1)] at hs17
      have hx1 : ((a :: L0).flatMap En.cs ++ [iv (d + i), iv k, iv h, .bool false]).length = (L0.length + 1 + 1) * 4 := by rw [List.length_append, len4]; simp only [List.length_cons, List.length_nil]; omega
      have hx2 : ∀ v ∈ (a :: L0).flatMap En.cs ++ [iv (d + i), iv k, iv h, .bool false], v.oneCell' = true := by rw [hfl]; exact one4 _
      repeat'
       conv => whnf
       first
        | refine zA ?_ | refine zB ?_ | refine zC ?_ | refine zD ?_ | refine zE ?_ | refine zF ?_ | refine zG ?_ | refine zH ?_ | refine zJ ?_ | refine zI ?_ | refine splT ?_ | refine splF ?_ | refine splNot ?_
        | ((first | refine splIn (fun hc => ?_) (fun hc => ?_) | refine splD (fun hc => ?_) (fun hc => ?_) | refine splE (fun hc => ?_) (fun hc => ?_) | refine splNE (fun hc => ?_) (fun hc => ?_)) <;> first | (exfalso; omega) | (exfalso; dsimp only at hc; omega) | skip)
        | ((with_reducible show CallEv _ _ 18 _ _ _ _ _); refine callF [] (fun z : Option Addr × Nat => sV G.length z) (fun z => Rd 2 gF (sV G.length z) G) (fun β w' _ hbw => Gears_ok G go gc w' (hG.below (by first | exact hbw | exact hbw.1 | exact hbw.1.1 | exact hbw.1.1.1 | exact hbw.1.1.1.1 | exact hbw.1.1.1.1.1 | exact hbw.1.1.1.1.1.1 | exact hbw.1.1.1.1.1.1.1)) hGl) ?_; intro zg; obtain ⟨zg1, zg2⟩ := zg; dsimp only)
        | refine And.intro (a := Nat.beq _ _ = true ∧ _ ∧ _) ⟨Nat.beq_refl _, hx1, hx2⟩ ?_
        | ((with_reducible show CallEv _ _ 17 _ _ _ _ _); refine callF [5] (fun z : Option Addr × Nat => .tuple #[sV A.length z, iv 0]) (fun z => Rd 1 iF (sV A.length z) A) (fun β w' hbk hbw => hs17 _ _ _ _ w' hbw.2 (Rd.of_owns (sz := 4) (f := En.cs) (fun _ => rfl) (hfl (a :: L0)) (by simp) (hbk 5 (by simp) _ rfl)) (by omega)) ?_; intro z; obtain ⟨z1, z2⟩ := z; dsimp only)
        | ((with_reducible show CallEv _ _ 32 _ _ _ _ _); refine callE (k := 32) (fun β w' hbw => h32 _ _ _ hAl hbw.2) ?_)
        | refine neqEBq hq ?_
      all_goals first | (exfalso; omega) | exact ⟨i + 1, by omega, by omega, Ent.ren (rho [(0, 3), (1, 4)]) rfl (by rw [ht]; rfl) ⟨rfl, rfl, rfl, rfl, rfl, by rw [ht]; simp [oSV]; rfl, by rw [hdi]; rfl, trivial⟩ (by rw [ht]; exact ⟨by simp [oM]; rfl, trivial⟩) fun _ h => ⟨h.1.1.1, h.1.1.2⟩⟩

set_option maxHeartbeats 8000000 in
set_option maxRecDepth 100000 in
theorem GearB3 (G : List (Int × Int)) (L Lb : List En) (go lo : Option Addr) (gc lc : Nat) (w : World) (hG : Rd 2 gF (.slice go G.length gc) G w) (hL : Rd 4 En.cs (.slice lo L.length lc) L w) (hGl : G.length ≤ 1000000) (hl : L.length ≤ 150) (hbl : Lb.length ≤ L.length) (k : Nat) (d h : Int) (hd : 0 ≤ d ∧ d ≤ 9000) (hh : 0 ≤ h ∧ h ≤ 24) (yb1 : Option Addr) (yb2 : Nat) (A B : List Int) (hAl : A.length ≤ 1000000) (hBl : B.length ≤ 1000000) (hst : ∀ z ∈ A, B.contains z = true) (N : Nat) (hN : N ≤ 12001)
    (hun : ∀ (o p : Option Addr) (c d' : Nat) (w' : World), Rd 2 gF (.slice o G.length c) G w' → Rd 4 En.cs (.slice p L.length d') L w' → Calls Try.prog 20 #[.slice o G.length c, .slice p L.length d', iv k, iv d, iv h] w' fun e w2 => e = .returned (.tuple #[iv (d + N), iv 0]) ∧ Below w'.heap.size w' w2)
    (hC : N ≤ 40 → VC Try.prog (rest 4 (rest 2 (rest 2 (rest 5 body6)))) ⟨201, [(0, .v (.slice go G.length gc)), (13, .v (iv k)), (14, .v (iv d)), (15, .v (iv h)), (16, .v (.slice yb1 Lb.length yb2)), (25, .v (iv (d + (N : Nat))))], [], 0, fun w2 => Below w.heap.size w w2 ∧ Rd 4 En.cs (.slice yb1 Lb.length yb2) Lb w2, z0⟩ (endΦ env Try.f6 fun s σ => (∀ β, s.c β = .bool true) ∧ ∀ w', σ.h w' → Below w.heap.size w w')) (a b : Option Addr × Nat) (ha0 : A = [] ∨ ∃ ad, a.1 = some ad) :
    VC Try.prog (rest 2 (rest 2 (rest 5 body6))) ⟨201, [(0, .v (.slice go G.length gc)), (1, .v (.slice lo L.length lc)), (13, .v (iv k)), (14, .v (iv d)), (15, .v (iv h)), (16, .v (.slice yb1 Lb.length yb2)), (18, .v (sV A.length a)), (19, .v (iv 0)), (20, .v (sV B.length b)), (21, .v (iv 0))], [], 0, fun w2 => Below w.heap.size w w2 ∧ Rd 4 En.cs (.slice yb1 Lb.length yb2) Lb w2 ∧ Rd 1 iF (sV A.length a) A w2 ∧ Rd 1 iF (sV B.length b) B w2, z0⟩ (endΦ env Try.f6 fun s σ => (∀ β, s.c β = .bool true) ∧ ∀ w', σ.h w' → Below w.heap.size w w') := by
  obtain ⟨a1, a2⟩ := a
  obtain ⟨b1, b2⟩ := b
  dsimp only [sV] at ha0 ⊢
  refine VC.cutD env mixed 4 0 (fun _ : Unit => [(0, .v (.slice go G.length gc)), (13, .v (iv k)), (14, .v (iv d)), (15, .v (iv h)), (16, .v (.slice yb1 Lb.length yb2)), (25, .v (iv (d + (N : Nat))))]) (fun _ => []) (fun _ w2 => Below w.heap.size w w2 ∧ Rd 4 En.cs (.slice yb1 Lb.length yb2) Lb w2) (fun _ => N ≤ 40) (fun _ _ => ⟨rfl, rfl⟩) ?_ (fun _ h40 => hC h40)
  clear hC
  repeat'
   conv => whnf
   first
    | refine zA ?_ | refine zB ?_ | refine zC ?_ | refine zD ?_ | refine zE ?_ | refine zF ?_ | refine zG ?_ | refine zH ?_ | refine zJ ?_ | refine zI ?_ | refine splT ?_ | refine splF ?_ | refine splNot ?_
    | ((first | refine splIn (fun hc => ?_) (fun hc => ?_) | refine splD (fun hc => ?_) (fun hc => ?_) | refine splE (fun hc => ?_) (fun hc => ?_) | refine splNE (fun hc => ?_) (fun hc => ?_)) <;> first | (exfalso; omega) | (exfalso; dsimp only at hc; omega) | skip)
  refine loopE (fun i : Nat => [(0, .v (.slice go G.length gc)), (1, .v (.slice lo L.length lc)), (13, .v (iv k)), (14, .v (iv d)), (15, .v (iv h)), (16, .v (.slice yb1 Lb.length yb2)), (18, .v (.slice a1 A.length a2)), (20, .v (.slice b1 B.length b2)), (24, .v (iv i))]) (fun _ => []) (fun i => i ≤ A.length) (fun i => A.length - i) 0 (Nat.zero_le _) ⟨rfl, rfl, rfl, rfl, rfl, rfl, rfl, rfl, rfl, trivial⟩ trivial (fun _ => ⟨rfl, rfl⟩) ?_
  intro i hi
  rcases Nat.lt_or_ge i A.length with hil | hil
  · obtain ⟨x, hx⟩ : ∃ b, A[i]? = some b := ⟨_, List.getElem?_eq_getElem hil⟩
    obtain ⟨ad, rfl⟩ := ha0.resolve_left fun hc => by rw [hc] at hil; simp at hil
    have h32 := fun (w' : World) (h : Rd 1 iF (.slice b1 B.length b2) B w') => has_ok B x b1 b2 w' h hBl
    rw [hst x (List.mem_of_getElem? hx)] at h32
    repeat'
     conv => whnf
     first
      | refine zA ?_ | refine zB ?_ | refine zC ?_ | refine zD ?_ | refine zE ?_ | refine zF ?_ | refine zG ?_ | refine zH ?_ | refine zJ ?_ | refine zI ?_ | refine splT ?_ | refine splF ?_ | refine splNot ?_
      | ((first | refine splIn (fun hc => ?_) (fun hc => ?_) | refine splD (fun hc => ?_) (fun hc => ?_) | refine splE (fun hc => ?_) (fun hc => ?_) | refine splNE (fun hc => ?_) (fun hc => ?_)) <;> first | (exfalso; omega) | (exfalso; dsimp only at hc; omega) | skip)
      | refine Exists.intro (α := List Value) [iv x] ⟨⟨rfl, fun w' hw' => rd_ati hw'.2.2.1 hx⟩, ?_⟩
      | ((with_reducible show CallEv _ _ 32 _ _ _ _ _); refine callE (k := 32) (fun β w' hbw => h32 _ hbw.2.2.2) ?_)
    all_goals first | (exfalso; omega) | exact ⟨i + 1, by omega, by omega, Ent.weak rfl ⟨rfl, rfl, rfl, rfl, rfl, rfl, rfl, rfl, rfl, trivial⟩ trivial fun _ h => h⟩
  · skip
    repeat'
     conv => whnf
     first
      | refine zA ?_ | refine zB ?_ | refine zC ?_ | refine zD ?_ | refine zE ?_ | refine zF ?_ | refine zG ?_ | refine zH ?_ | refine zJ ?_ | refine zI ?_ | refine splT ?_ | refine splF ?_ | refine splNot ?_
      | ((first | refine splIn (fun hc => ?_) (fun hc => ?_) | refine splD (fun hc => ?_) (fun hc => ?_) | refine splE (fun hc => ?_) (fun hc => ?_) | refine splNE (fun hc => ?_) (fun hc => ?_)) <;> first | (exfalso; omega) | (exfalso; dsimp only at hc; omega) | skip)
      | ((with_reducible show CallEv _ _ 18 _ _ _ _ _); refine callF [] (fun z : Option Addr × Nat => sV G.length z) (fun z => Rd 2 gF (sV G.length z) G) (fun β w' _ hbw => Gears_ok G go gc w' (hG.below (by first | exact hbw | exact hbw.1 | exact hbw.1.1 | exact hbw.1.1.1 | exact hbw.1.1.1.1 | exact hbw.1.1.1.1.1 | exact hbw.1.1.1.1.1.1 | exact hbw.1.1.1.1.1.1.1)) hGl) ?_; intro zg; obtain ⟨zg1, zg2⟩ := zg; dsimp only)
      | ((with_reducible show CallEv _ _ 19 _ _ _ _ _); refine callF [] (fun z : Option Addr × Nat => sV L.length z) (fun z => Rd 4 En.cs (sV L.length z) L) (fun β w' _ hbw => Log_ok L lo lc w' (hL.below (by first | exact hbw | exact hbw.1 | exact hbw.1.1 | exact hbw.1.1.1 | exact hbw.1.1.1.1 | exact hbw.1.1.1.1.1 | exact hbw.1.1.1.1.1.1 | exact hbw.1.1.1.1.1.1.1)) (by omega)) ?_; intro u; obtain ⟨u1, u2⟩ := u; dsimp only)
      | ((with_reducible show CallEv _ _ 20 _ _ _ _ _); refine callE (k := 20) (fun β w' hbw => hun _ _ _ _ _ hbw.1.2 hbw.2) ?_)
    all_goals first | (exfalso; omega) | skip
    repeat'
     conv => whnf
     first
      | refine zA ?_ | refine zB ?_ | refine zC ?_ | refine zD ?_ | refine zE ?_ | refine zF ?_ | refine zG ?_ | refine zH ?_ | refine zJ ?_ | refine zI ?_ | refine splT ?_ | refine splF ?_ | refine splNot ?_
      | ((first | refine splIn (fun hc => ?_) (fun hc => ?_) | refine splD (fun hc => ?_) (fun hc => ?_) | refine splE (fun hc => ?_) (fun hc => ?_) | refine splNE (fun hc => ?_) (fun hc => ?_)) <;> first | (exfalso; omega) | (exfalso; dsimp only at hc; omega) | skip)
      | ((with_reducible show CallEv _ _ 16 _ _ _ _ _); refine callE (k := 16) (fun β w' hbw => awake_ok _) ?_)
    all_goals first | (exfalso; omega) | exact ⟨fun β => rfl, fun w' h => h.1.1.1⟩ | exact ⟨rfl, Dis.mk [] (fun i hi => by simp at hi) fun β w1 hb hw => ⟨(), by omega, ⟨⟨_, rfl, rfl⟩, ⟨_, rfl, rfl⟩, ⟨_, rfl, rfl⟩, ⟨_, rfl, rfl⟩, ⟨_, rfl, rfl⟩, ⟨_, rfl, rfl⟩, trivial⟩, trivial, fun w2 h2 hb2 => ⟨h2.1.1.1, h2.1.1.2.1⟩⟩⟩

set_option maxHeartbeats 8000000 in
set_option maxRecDepth 100000 in
theorem GearB2 (G : List (Int × Int)) (L Lb : List En) (go lo : Option Addr) (gc lc : Nat) (w : World) (hG : Rd 2 gF (.slice go G.length gc) G w) (hL : Rd 4 En.cs (.slice lo L.length lc) L w) (hGl : G.length ≤ 1000000) (hl : L.length ≤ 150) (hbl : Lb.length ≤ L.length) (k : Nat) (d h : Int) (hd : 0 ≤ d ∧ d ≤ 9000) (hh : 0 ≤ h ∧ h ≤ 24) (yb1 : Option Addr) (yb2 : Nat) (A B C : List Int) (hCl : C.length ≤ 1000000) (hck : C.contains (k : Int) = false)
    (hsC : ∀ (o p : Option Addr) (c d' : Nat) (w' : World), Rd 2 gF (.slice o G.length c) G w' → Rd 4 En.cs (.slice p (Lb ++ [(⟨d, k, h, true⟩ : En)]).length d') (Lb ++ [(⟨d, k, h, true⟩ : En)]) w' → Calls Try.prog 17 #[.slice o G.length c, .slice p (Lb ++ [(⟨d, k, h, true⟩ : En)]).length d', iv d] w' fun e w2 => ∃ y : Option Addr × Nat, e = .returned (.tuple #[sV C.length y, iv 0]) ∧ Below w'.heap.size w' w2 ∧ St w'.heap.size (Rd 1 iF (sV C.length y) C) w2)
    (a b : Option Addr × Nat)
    (hC : VC Try.prog (rest 2 (rest 2 (rest 5 body6))) ⟨201, [(0, .v (.slice go G.length gc)), (1, .v (.slice lo L.length lc)), (13, .v (iv k)), (14, .v (iv d)), (15, .v (iv h)), (16, .v (.slice yb1 Lb.length yb2)), (18, .v (sV A.length a)), (19, .v (iv 0)), (20, .v (sV B.length b)), (21, .v (iv 0))], [], 0, fun w2 => Below w.heap.size w w2 ∧ Rd 4 En.cs (.slice yb1 Lb.length yb2) Lb w2 ∧ Rd 1 iF (sV A.length a) A w2 ∧ Rd 1 iF (sV B.length b) B w2, z0⟩ (endΦ env Try.f6 fun s σ => (∀ β, s.c β = .bool true) ∧ ∀ w', σ.h w' → Below w.heap.size w w')) :
    VC Try.prog (rest 2 (rest 5 body6)) ⟨201, [(0, .v (.slice go G.length gc)), (1, .v (.slice lo L.length lc)), (13, .v (iv k)), (14, .v (iv d)), (15, .v (iv h)), (16, .v (.slice yb1 Lb.length yb2)), (18, .v (sV A.length a)), (19, .v (iv 0)), (20, .v (sV B.length b)), (21, .v (iv 0))], [], 0, fun w2 => Below w.heap.size w w2 ∧ Rd 4 En.cs (.slice yb1 Lb.length yb2) Lb w2 ∧ Rd 1 iF (sV A.length a) A w2 ∧ Rd 1 iF (sV B.length b) B w2, z0⟩ (endΦ env Try.f6 fun s σ => (∀ β, s.c β = .bool true) ∧ ∀ w', σ.h w' → Below w.heap.size w w') := by
  have h32 := fun (o : Option Addr) (c : Nat) (w' : World) (h : Rd 1 iF (.slice o C.length c) C w') => has_ok C k o c w' h hCl
  rw [hck] at h32
  have hlogo := fun (hne : Lb ≠ []) (w' : World) (h : Rd 4 En.cs (.slice yb1 Lb.length yb2) Lb w') => Log_own Lb yb1 yb2 w' h (by omega) hne
  have hlogn := fun (w' : World) => Log_nil yb1 yb2 w'
  have hfl : ∀ L0 : List En, L0.flatMap En.cs ++ [iv d, iv k, iv h, .bool true] = (L0 ++ [(⟨d, k, h, true⟩ : En)]).flatMap En.cs := fun L0 => by rw [List.flatMap_append]; simp
  refine VC.cutD env mixed 2 0 (fun _ : Unit => [(0, .v (.slice go G.length gc)), (1, .v (.slice lo L.length lc)), (13, .v (iv k)), (14, .v (iv d)), (15, .v (iv h)), (16, .v (.slice yb1 Lb.length yb2)), (18, .v (sV A.length a)), (19, .v (iv 0)), (20, .v (sV B.length b)), (21, .v (iv 0))]) (fun _ => []) (fun _ w2 => Below w.heap.size w w2 ∧ Rd 4 En.cs (.slice yb1 Lb.length yb2) Lb w2 ∧ Rd 1 iF (sV A.length a) A w2 ∧ Rd 1 iF (sV B.length b) B w2) (fun _ => True) (fun _ _ => ⟨rfl, rfl⟩) ?_ (fun _ _ => hC)
  clear hC
  obtain ⟨a1, a2⟩ := a
  obtain ⟨b1, b2⟩ := b
  dsimp only [sV]
  by_cases hne : Lb = []
  · subst hne
    dsimp only [List.nil_append, List.length_cons, List.length_nil] at hsC
    clear hlogo
    repeat'
     conv => whnf
     first
      | refine zA ?_ | refine zB ?_ | refine zC ?_ | refine zD ?_ | refine zE ?_ | refine zF ?_ | refine zG ?_ | refine zH ?_ | refine zJ ?_ | refine zI ?_ | refine splT ?_ | refine splF ?_ | refine splNot ?_
      | ((first | refine splIn (fun hc => ?_) (fun hc => ?_) | refine splD (fun hc => ?_) (fun hc => ?_) | refine splE (fun hc => ?_) (fun hc => ?_) | refine splNE (fun hc => ?_) (fun hc => ?_)) <;> first | (exfalso; omega) | (exfalso; dsimp only at hc; omega) | skip)
      | ((with_reducible show CallEv _ _ 18 _ _ _ _ _); refine callF [] (fun z : Option Addr × Nat => sV G.length z) (fun z => Rd 2 gF (sV G.length z) G) (fun β w' _ hbw => Gears_ok G go gc w' (hG.below (by first | exact hbw | exact hbw.1 | exact hbw.1.1 | exact hbw.1.1.1 | exact hbw.1.1.1.1 | exact hbw.1.1.1.1.1 | exact hbw.1.1.1.1.1.1 | exact hbw.1.1.1.1.1.1.1)) hGl) ?_; intro zg; obtain ⟨zg1, zg2⟩ := zg; dsimp only)
      | ((with_reducible show CallEv _ _ 19 _ _ _ _ _); refine callE (k := 19) (fun β w' hbw => hlogn _) ?_)
      | ((with_reducible show CallEv _ _ 17 _ _ _ _ _); refine callF [1] (fun z : Option Addr × Nat => .tuple #[sV C.length z, iv 0]) (fun z => Rd 1 iF (sV C.length z) C) (fun β w' hbk hbw => hsC _ _ _ _ w' hbw.2 (Rd.of_owns (sz := 4) (f := En.cs) (fun _ => rfl) rfl rfl (hbk 1 (by simp) _ rfl))) ?_; intro z; obtain ⟨z1, z2⟩ := z; dsimp only)
      | ((with_reducible show CallEv _ _ 32 _ _ _ _ _); refine callE (k := 32) (fun β w' hbw => h32 _ _ _ hbw.2) ?_)
    all_goals first | (exfalso; omega) | exact ⟨rfl, Dis.mk [] (fun i hi => by simp at hi) fun β w1 hb hw => ⟨(), trivial, ⟨⟨_, rfl, rfl⟩, ⟨_, rfl, rfl⟩, ⟨_, rfl, rfl⟩, ⟨_, rfl, rfl⟩, ⟨_, rfl, rfl⟩, ⟨_, rfl, rfl⟩, ⟨_, rfl, rfl⟩, ⟨_, rfl, rfl⟩, ⟨_, rfl, rfl⟩, ⟨_, rfl, rfl⟩, trivial⟩, trivial, fun w2 h2 hb2 => h2.1.1⟩⟩
  · obtain ⟨b0, L1, rfl⟩ : ∃ b0 L1, Lb = b0 :: L1 := by cases Lb with | nil => exact absurd rfl hne | cons b L1 => exact ⟨b, L1, rfl⟩
    have hlogo := hlogo hne
    simp only [List.length_append, List.length_cons, List.length_nil, Nat.zero_add] at hsC hbl
    repeat'
     conv => whnf
     first
      | refine zA ?_ | refine zB ?_ | refine zC ?_ | refine zD ?_ | refine zE ?_ | refine zF ?_ | refine zG ?_ | refine zH ?_ | refine zJ ?_ | refine zI ?_ | refine splT ?_ | refine splF ?_ | refine splNot ?_
      | ((first | refine splIn (fun hc => ?_) (fun hc => ?_) | refine splD (fun hc => ?_) (fun hc => ?_) | refine splE (fun hc => ?_) (fun hc => ?_) | refine splNE (fun hc => ?_) (fun hc => ?_)) <;> first | (exfalso; omega) | (exfalso; dsimp only at hc; omega) | skip)
      | ((with_reducible show CallEv _ _ 18 _ _ _ _ _); refine callF [] (fun z : Option Addr × Nat => sV G.length z) (fun z => Rd 2 gF (sV G.length z) G) (fun β w' _ hbw => Gears_ok G go gc w' (hG.below (by first | exact hbw | exact hbw.1 | exact hbw.1.1 | exact hbw.1.1.1 | exact hbw.1.1.1.1 | exact hbw.1.1.1.1.1 | exact hbw.1.1.1.1.1.1 | exact hbw.1.1.1.1.1.1.1)) hGl) ?_; intro zg; obtain ⟨zg1, zg2⟩ := zg; dsimp only)
      | ((with_reducible show CallEv _ _ 19 _ _ _ _ _); refine callO 0 [] (.os 0 1 (L1.length + 1)) (L1.length + 1) 4 ((b0 :: L1).flatMap En.cs) 75 rfl (fun β w' _ hbw => (hlogo w' hbw.1.2.1).mono fun _ _ ⟨b, c, h1, h2, h3, h4⟩ => ⟨b, c, h1, h2, h3, h4⟩) ?_)
      | ((with_reducible show CallEv _ _ 17 _ _ _ _ _); refine callF [3] (fun z : Option Addr × Nat => .tuple #[sV C.length z, iv 0]) (fun z => Rd 1 iF (sV C.length z) C) (fun β w' hbk hbw => hsC _ _ _ _ w' hbw.2 (Rd.of_owns (sz := 4) (f := En.cs) (fun _ => rfl) (hfl (b0 :: L1)) (by simp) (hbk 3 (by simp) _ rfl))) ?_; intro z; obtain ⟨z1, z2⟩ := z; dsimp only)
      | ((with_reducible show CallEv _ _ 32 _ _ _ _ _); refine callE (k := 32) (fun β w' hbw => h32 _ _ _ hbw.2) ?_)
    all_goals first | (exfalso; omega) | exact ⟨rfl, Dis.mk [] (fun i hi => by simp at hi) fun β w1 hb hw => ⟨(), trivial, ⟨⟨_, rfl, rfl⟩, ⟨_, rfl, rfl⟩, ⟨_, rfl, rfl⟩, ⟨_, rfl, rfl⟩, ⟨_, rfl, rfl⟩, ⟨_, rfl, rfl⟩, ⟨_, rfl, rfl⟩, ⟨_, rfl, rfl⟩, ⟨_, rfl, rfl⟩, ⟨_, rfl, rfl⟩, trivial⟩, trivial, fun w2 h2 hb2 => h2.1.1⟩⟩

theorem unt_le {G : List (Int × Int)} {L : List En} {k : Nat} {d h : Int} {N : Nat} (hd : 0 ≤ d) (e : untR G L k d h = d + N) : N ≤ 12001 := by
  unfold untR at e
  cases hg : G[(k : Int).toNat]? with
  | none => rw [hg] at e; dsimp only at e; omega
  | some g => rw [hg] at e; dsimp only at e; have := untN_le (g := g) (s := stL k d L) (day := d) (hours := h); split at e <;> omega
set_option maxHeartbeats 8000000 in
set_option maxRecDepth 100000 in
theorem GearB1 (G : List (Int × Int)) (L : List En) (go lo : Option Addr) (gc lc : Nat) (w : World) (hG : Rd 2 gF (.slice go G.length gc) G w) (hL : Rd 4 En.cs (.slice lo L.length lc) L w) (he : lgE G L = 0) (hl : L.length ≤ 150) (k : Nat) (g : Int × Int) (hg : G[k]? = some g) (d h : Int) (hd : 0 ≤ d ∧ d ≤ 9000) (hh : 0 ≤ h ∧ h ≤ 24) (m : Int) (hm : 0 ≤ m ∧ m ≤ 65535) (Lb : List En) (hLb : lbf L d = Lb) (yb1 : Option Addr) (yb2 : Nat) :
    VC Try.prog (rest 5 body6) ⟨201, [(0, .v (.slice go G.length gc)), (1, .v (.slice lo L.length lc)), (4, .v (.int .u16 m)), (13, .v (iv k)), (14, .v (iv d)), (15, .v (iv h)), (16, .v (.slice yb1 Lb.length yb2))], [], 0, fun w2 => Below w.heap.size w w2 ∧ Rd 4 En.cs (.slice yb1 Lb.length yb2) Lb w2, z0⟩ (endΦ env Try.f6 fun s σ => (∀ β, s.c β = .bool true) ∧ ∀ w', σ.h w' → Below w.heap.size w w') := by
  have hGl : G.length ≤ 1000000 := by have := (lgE_ok he).1; omega
  have hbl := lbf_len L d
  obtain ⟨hu0, N, hN, hun⟩ := gear_unt he hl hg hd hh
  have hC := fun (hN40 : N ≤ 40) => GearC G L go lo gc lc w hG hL he hl k g hg d h hd hh (yb1, yb2) N hN40 hun
  clear hun
  have hNl := unt_le hd.1 hN
  have hchk := gear_chk he hl hg hd hh
  obtain ⟨mm, hmm⟩ : ∃ mm, m % 1000 = mm := ⟨_, rfl⟩
  have hmr : 0 ≤ mm ∧ mm ≤ 1000 := by omega
  have hstay := gear_stay (L := L) he hd hmr
  have hlg0 := lg_lbf he d
  have hst : ∀ L' x, lgE G L' = 0 → 0 ≤ x → x ≤ 10000 → staE G L' x = 0 := fun L' x h1 h2 h3 => by unfold staE; rw [if_pos h1, if_pos ⟨h2, h3⟩]
  have hsl : ∀ (L' : List En) (x : Int), (staR G L' x).length ≤ 1000000 := fun L' x => by
    unfold staR
    split
    · have := staL_len G L' x G.length; omega
    · simp
  have hE1 := hst _ d hlg0 hd.1 (by omega)
  have hE2 := hst _ (d + mm) hlg0 (by omega) (by omega)
  have hE3 := hst _ d hchk.1 hd.1 (by omega)
  rw [hLb] at hbl hC hchk hstay hlg0 hE1 hE2 hE3
  clear hLb hst
  have hlog := fun (w' : World) (h : Rd 4 En.cs (.slice yb1 Lb.length yb2) Lb w') => Log_ok Lb yb1 yb2 w' h (by omega)
  have hsA := fun (o p : Option Addr) (c d' : Nat) (w' : World) (h1 : Rd 2 gF (.slice o G.length c) G w') (h2 : Rd 4 En.cs (.slice p Lb.length d') Lb w') => Stale_ok G Lb o p c d' d w' h1 h2 hGl (by omega)
  have hsB := fun (o p : Option Addr) (c d' : Nat) (w' : World) (h1 : Rd 2 gF (.slice o G.length c) G w') (h2 : Rd 4 En.cs (.slice p Lb.length d') Lb w') => Stale_ok G Lb o p c d' (d + mm) w' h1 h2 hGl (by omega)
  have hsC := fun (o p : Option Addr) (c d' : Nat) (w' : World) (h1 : Rd 2 gF (.slice o G.length c) G w') (h2 : Rd 4 En.cs (.slice p (Lb ++ [(⟨d, k, h, true⟩ : En)]).length d') (Lb ++ [(⟨d, k, h, true⟩ : En)]) w') => Stale_ok G (Lb ++ [(⟨d, k, h, true⟩ : En)]) o p c d' d w' h1 h2 hGl (by rw [List.length_append, List.length_singleton]; omega)
  have hq := hchk.2
  rw [hE1] at hsA
  rw [hE2] at hsB
  rw [hE3] at hsC
  have hAl := hsl Lb d
  have hBl := hsl Lb (d + mm)
  have hCl := hsl (Lb ++ [(⟨d, k, h, true⟩ : En)]) d
  have hun20 := fun (o p : Option Addr) (c d' : Nat) (w' : World) (h1 : Rd 2 gF (.slice o G.length c) G w') (h2 : Rd 4 En.cs (.slice p L.length d') L w') => Until_ok G L o p c d' k d h w' h1 h2 hGl (by omega)
  rw [hu0, hN] at hun20
  clear hE1 hE2 hE3 hsl hchk
  obtain ⟨A, hA⟩ : ∃ A, staR G Lb d = A := ⟨_, rfl⟩
  obtain ⟨B, hB⟩ : ∃ B, staR G Lb (d + mm) = B := ⟨_, rfl⟩
  obtain ⟨C, hCC⟩ : ∃ C, staR G (Lb ++ [(⟨d, k, h, true⟩ : En)]) d = C := ⟨_, rfl⟩
  rw [hA] at hstay hsA hAl
  rw [hB] at hstay hsB hBl
  rw [hCC] at hsC hq hCl
  clear hA hB hCC
  have hfin := fun (a b : Option Addr × Nat) (ha0 : A = [] ∨ ∃ ad, a.1 = some ad) => GearB2 G L Lb go lo gc lc w hG hL hGl hl hbl k d h hd hh yb1 yb2 A B C hCl hq hsC a b (GearB3 G L Lb go lo gc lc w hG hL hGl hl hbl k d h hd hh yb1 yb2 A B hAl hBl hstay N hNl hun20 hC a b ha0)
  clear hC hsC hun20 hstay hq
  refine VC.cutD env mixed 2 0 (fun x : YS A × YS B => [(0, .v (.slice go G.length gc)), (1, .v (.slice lo L.length lc)), (13, .v (iv k)), (14, .v (iv d)), (15, .v (iv h)), (16, .v (.slice yb1 Lb.length yb2)), (18, .v (sV A.length x.1.1)), (19, .v (iv 0)), (20, .v (sV B.length x.2.1)), (21, .v (iv 0))]) (fun _ => []) (fun x w2 => Below w.heap.size w w2 ∧ Rd 4 En.cs (.slice yb1 Lb.length yb2) Lb w2 ∧ Rd 1 iF (sV A.length x.1.1) A w2 ∧ Rd 1 iF (sV B.length x.2.1) B w2) (fun _ => True) (fun _ _ => ⟨rfl, rfl⟩) ?_ (fun x _ => hfin x.1.1 x.2.1 x.1.2)
  clear hfin
  repeat'
   conv => whnf
   first
    | refine zA ?_ | refine zB ?_ | refine zC ?_ | refine zD ?_ | refine zE ?_ | refine zF ?_ | refine zG ?_ | refine zH ?_ | refine zJ ?_ | refine zI ?_ | refine splT ?_ | refine splF ?_ | refine splNot ?_
    | ((first | refine splIn (fun hc => ?_) (fun hc => ?_) | refine splD (fun hc => ?_) (fun hc => ?_) | refine splE (fun hc => ?_) (fun hc => ?_) | refine splNE (fun hc => ?_) (fun hc => ?_)) <;> first | (exfalso; omega) | (exfalso; dsimp only at hc; omega) | skip)
    | ((with_reducible show CallEv _ _ 18 _ _ _ _ _); refine callF [] (fun z : Option Addr × Nat => sV G.length z) (fun z => Rd 2 gF (sV G.length z) G) (fun β w' _ hbw => Gears_ok G go gc w' (hG.below (by first | exact hbw | exact hbw.1 | exact hbw.1.1 | exact hbw.1.1.1 | exact hbw.1.1.1.1 | exact hbw.1.1.1.1.1 | exact hbw.1.1.1.1.1.1 | exact hbw.1.1.1.1.1.1.1)) hGl) ?_; intro zg; obtain ⟨zg1, zg2⟩ := zg; dsimp only)
    | ((with_reducible show CallEv _ _ 19 [.v (.slice yb1 _ _)] _ _ _ _); refine callF [] (fun z : Option Addr × Nat => sV Lb.length z) (fun z => Rd 4 En.cs (sV Lb.length z) Lb) (fun β w' _ hbw => hlog w' (by first | exact hbw.1.2 | exact hbw.1.1.1.1.2)) ?_; intro l; obtain ⟨l1, l2⟩ := l; dsimp only)
    | ((with_reducible show CallEv _ _ 17 [_, _, .v (iv d)] _ _ _ _); refine callF [] (fun z : YS A => .tuple #[sV A.length z.1, iv 0]) (fun z => Rd 1 iF (sV A.length z.1) A) (fun β w' _ hbw => (hsA _ _ _ _ w' hbw.1.2 hbw.2).mono fun e w2 ⟨y, h1, h2, h3⟩ => ⟨⟨y, rd_ys h3.now⟩, h1, h2, h3⟩) ?_; intro a; obtain ⟨⟨a1, a2⟩, ha0⟩ := a; dsimp only at ha0 ⊢)
    | ((with_reducible show CallEv _ _ 17 [_, _, .v (iv (d + mm))] _ _ _ _); refine callF [] (fun z : YS B => .tuple #[sV B.length z.1, iv 0]) (fun z => Rd 1 iF (sV B.length z.1) B) (fun β w' _ hbw => (hsB _ _ _ _ w' hbw.1.2 hbw.2).mono fun e w2 ⟨y, h1, h2, h3⟩ => ⟨⟨y, rd_ys h3.now⟩, h1, h2, h3⟩) ?_; intro b; obtain ⟨⟨b1, b2⟩, hb0⟩ := b; dsimp only at hb0 ⊢)
    | refine Exists.intro (α := Value) (iv m) ⟨cv16 m hm, ?_⟩
    | (refine remE (by omega) (by omega) ?_; rw [hmm])
  all_goals first | (exfalso; omega) | exact ⟨rfl, Dis.mk [] (fun i hi => by simp at hi) fun β w1 hb hw => ⟨(⟨(a1, a2), ha0⟩, ⟨(b1, b2), hb0⟩), trivial, ⟨⟨_, rfl, rfl⟩, ⟨_, rfl, rfl⟩, ⟨_, rfl, rfl⟩, ⟨_, rfl, rfl⟩, ⟨_, rfl, rfl⟩, ⟨_, rfl, rfl⟩, ⟨_, rfl, rfl⟩, ⟨_, rfl, rfl⟩, ⟨_, rfl, rfl⟩, ⟨_, rfl, rfl⟩, trivial⟩, trivial, fun w2 h2 hb2 => ⟨h2.1.1.1.1.1.1.1, h2.1.1.1.1.1.1.2, h2.1.1.1.2, h2.2⟩⟩⟩

theorem lbf_succ {L : List En} {d : Int} {i : Nat} {x : En} (hx : L[i]? = some x) : lbf (L.take (i + 1)) d = if x.day ≤ d then lbf (L.take i) d ++ [x] else lbf (L.take i) d := by
  rw [List.take_add_one, hx]
  unfold lbf
  rw [List.filter_append]
  split
  · rw [Option.toList_some, List.filter_cons_of_pos (by simpa)]; rfl
  · rw [Option.toList_some, List.filter_cons_of_neg (by simp; omega)]; simp
set_option maxRecDepth 100000 in
theorem LogFault_big (G : List (Int × Int)) (L : List En) (o p : Option Addr) (c d : Nat) (w : World) (hg : G.length ≤ 9223372036854775807) (hl : L.length ≤ 9223372036854775807) (h1 : 20 < G.length ∨ 200 < L.length) :
    Calls Try.prog 21 #[.slice o G.length c, .slice p L.length d] w fun e w' => e = .returned (iv (lgE G L)) ∧ Below w.heap.size w w' := by
  refine calls_val env mixed Try.func21 has21 Try.ntmps21 [.slice o G.length c, .slice p L.length d] (by simp) ?_
  unfold lgE
  rw [if_pos h1]
  repeat'
   conv => whnf
   first
    | refine zA ?_ | refine zB ?_ | refine zC ?_ | refine zD ?_ | refine zE ?_ | refine zF ?_ | refine zG ?_ | refine zH ?_ | refine zJ ?_ | refine zI ?_ | refine splT ?_ | refine splF ?_ | refine splNot ?_
    | ((first | refine splIn (fun hc => ?_) (fun hc => ?_) | refine splD (fun hc => ?_) (fun hc => ?_) | refine splE (fun hc => ?_) (fun hc => ?_) | refine splNE (fun hc => ?_) (fun hc => ?_)) <;> first | (exfalso; omega) | (exfalso; dsimp only at hc; omega) | skip)
  all_goals first | exact ⟨fun β => rfl, fun w' h => h⟩ | (exfalso; omega) | skip
set_option maxHeartbeats 8000000 in
set_option maxRecDepth 100000 in
theorem RiggingGear_ok (G : List (Int × Int)) (L : List En) (go lo : Option Addr) (gc lc : Nat) (nu da m ho : Int) (w : World) (hG : Rd 2 gF (.slice go G.length gc) G w) (hL : Rd 4 En.cs (.slice lo L.length lc) L w) (hGl : G.length ≤ 9223372036854775807) (hLl : L.length ≤ 9223372036854775807)
    (hnu : 0 ≤ nu ∧ nu ≤ 255) (hda : 0 ≤ da ∧ da ≤ 65535) (hm : 0 ≤ m ∧ m ≤ 65535) (hho : 0 ≤ ho ∧ ho ≤ 255) :
    Calls Try.prog 6 #[.slice go G.length gc, .slice lo L.length lc, .int .u8 nu, .int .u16 da, .int .u16 m, .int .u8 ho] w fun e w' => e = .returned (.bool true) ∧ Below w.heap.size w w' := by
  refine calls_valV env mixed Try.func6 has6 Try.ntmps6 [.slice go G.length gc, .slice lo L.length lc, .int .u8 nu, .int .u16 da, .int .u16 m, .int .u8 ho] (by simp) ?_
  have h21 : ∀ w', Below w.heap.size w w' → Calls Try.prog 21 #[.slice go G.length gc, .slice lo L.length lc] w' fun e w2 => e = .returned (iv (lgE G L)) ∧ Below w'.heap.size w' w2 := fun w' hb => by
    by_cases hb1 : 20 < G.length ∨ 200 < L.length
    · exact LogFault_big G L go lo gc lc w' hGl hLl hb1
    · exact LogFault_ok G L go lo gc lc w' (hG.below hb) (hL.below hb) (by omega) (by omega)
  by_cases hok : G = [] ∨ 150 < L.length ∨ lgE G L ≠ 0
  · refine VC.of env mixed ?_
    rcases hok with rfl | hok
    · skip
      repeat'
       conv => whnf
       first
        | refine zA ?_ | refine zB ?_ | refine zC ?_ | refine zD ?_ | refine zE ?_ | refine zF ?_ | refine zG ?_ | refine zH ?_ | refine zJ ?_ | refine zI ?_ | refine splT ?_ | refine splF ?_ | refine splNot ?_
        | ((first | refine splIn (fun hc => ?_) (fun hc => ?_) | refine splD (fun hc => ?_) (fun hc => ?_) | refine splE (fun hc => ?_) (fun hc => ?_) | refine splNE (fun hc => ?_) (fun hc => ?_)) <;> first | (exfalso; omega) | (exfalso; dsimp only at hc; omega) | skip)
        | ((with_reducible show CallEv _ _ 16 _ _ _ _ _); refine callE (k := 16) (fun β w' hbw => awake_ok _) ?_)
      all_goals first | (exfalso; omega) | exact ⟨fun β => rfl, fun w' h => h⟩
    have hgl0 : 0 ≤ (G.length : Int) := by omega
    generalize lgE G L = E at *
    repeat'
     conv => whnf
     first
      | refine zA ?_ | refine zB ?_ | refine zC ?_ | refine zD ?_ | refine zE ?_ | refine zF ?_ | refine zG ?_ | refine zH ?_ | refine zJ ?_ | refine zI ?_ | refine splT ?_ | refine splF ?_ | refine splNot ?_
      | ((first | refine splIn (fun hc => ?_) (fun hc => ?_) | refine splD (fun hc => ?_) (fun hc => ?_) | refine splE (fun hc => ?_) (fun hc => ?_) | refine splNE (fun hc => ?_) (fun hc => ?_)) <;> first | (exfalso; omega) | (exfalso; dsimp only at hc; omega) | skip)
      | ((with_reducible show CallEv _ _ 21 _ _ _ _ _); refine callE (k := 21) (fun β w' hbw => h21 _ hbw) ?_)
      | ((with_reducible show CallEv _ _ 16 _ _ _ _ _); refine callE (k := 16) (fun β w' hbw => awake_ok _) ?_)
    all_goals first | (exfalso; omega) | exact ⟨fun β => rfl, fun w' h => h⟩
  have hGne : G ≠ [] := fun hc => hok (.inl hc)
  have hl : L.length ≤ 150 := by omega
  have he : lgE G L = 0 := by omega
  have hG0 : 0 < G.length := List.length_pos_iff.2 hGne
  rw [he] at h21
  obtain ⟨k, hk⟩ : ∃ k : Nat, nu % (G.length : Int) = k := ⟨(nu % (G.length : Int)).toNat, by have := Int.emod_nonneg nu (b := (G.length : Int)) (by omega); omega⟩
  have hkl : k < G.length := by have := Int.emod_lt_of_pos nu (b := (G.length : Int)) (by omega); omega
  obtain ⟨g, hg⟩ : ∃ g, G[k]? = some g := ⟨_, List.getElem?_eq_getElem hkl⟩
  obtain ⟨d, hd⟩ : ∃ d, da % 9000 = d := ⟨_, rfl⟩
  obtain ⟨h, hh⟩ : ∃ h, ho % 25 = h := ⟨_, rfl⟩
  have hfin := GearB1 G L go lo gc lc w hG hL he hl k g hg d h (by omega) (by omega) m hm (lbf L d) rfl
  have hbl := lbf_len L d
  have hstep := fun (i : Nat) (x : En) (hx : L[i]? = some x) => lbf_succ (d := d) hx
  have hfl : lbf (L.take L.length) d = lbf L d := by rw [List.take_length]
  have h0 : lbf (L.take 0) d = [] := rfl
  have hlen := fun i => Nat.le_trans (lbf_len (L.take i) d) (by rw [List.length_take]; exact Nat.min_le_right _ _)
  obtain ⟨T, hT⟩ : ∃ T : Nat → List En, (fun i => lbf (L.take i) d) = T := ⟨_, rfl⟩
  have hT' : ∀ i, lbf (L.take i) d = T i := fun i => congrFun hT i
  simp only [hT'] at hstep hfl h0 hlen
  generalize lbf L d = Lb at *
  clear hT hT' he hok
  refine VC.cutD env mixed 5 0 (fun y : Option Addr × Nat => [(0, .v (.slice go G.length gc)), (1, .v (.slice lo L.length lc)), (4, .v (.int .u16 m)), (13, .v (iv k)), (14, .v (iv d)), (15, .v (iv h)), (16, .v (.slice y.1 Lb.length y.2))]) (fun _ => []) (fun y w2 => Below w.heap.size w w2 ∧ Rd 4 En.cs (.slice y.1 Lb.length y.2) Lb w2) (fun _ => True) (fun _ _ => ⟨rfl, rfl⟩) ?_ (fun y _ => hfin y.1 y.2)
  clear hfin
  repeat'
   conv => whnf
   first
    | refine zA ?_ | refine zB ?_ | refine zC ?_ | refine zD ?_ | refine zE ?_ | refine zF ?_ | refine zG ?_ | refine zH ?_ | refine zJ ?_ | refine zI ?_ | refine splT ?_ | refine splF ?_ | refine splNot ?_
    | ((first | refine splIn (fun hc => ?_) (fun hc => ?_) | refine splD (fun hc => ?_) (fun hc => ?_) | refine splE (fun hc => ?_) (fun hc => ?_) | refine splNE (fun hc => ?_) (fun hc => ?_)) <;> first | (exfalso; omega) | (exfalso; dsimp only at hc; omega) | skip)
    | ((with_reducible show CallEv _ _ 21 _ _ _ _ _); refine callE (k := 21) (fun β w' hbw => h21 _ hbw) ?_)
    | refine Exists.intro (α := Value) (iv nu) ⟨cv8 nu hnu, ?_⟩
    | refine Exists.intro (α := Value) (iv ho) ⟨cv8 ho hho, ?_⟩
    | refine Exists.intro (α := Value) (iv da) ⟨cv16 da hda, ?_⟩
    | (refine remE (by omega) (by omega) ?_; first | rw [hk] | rw [hd] | rw [hh])
  all_goals first | (exfalso; omega) | skip
  refine loopN 2 (fun i : Nat => [(0, .v (.slice go G.length gc)), (1, .v (.slice lo L.length lc)), (4, .v (.int .u16 m)), (13, .v (iv k)), (14, .v (iv d)), (15, .v (iv h)), (16, oSV 0 1 (T i)), (17, .v (iv i))]) (fun i => oM 0 1 4 En.cs 74 (T i)) (fun i => i ≤ L.length) (fun i => L.length - i) 0 (Nat.zero_le _) ⟨rfl, rfl, rfl, rfl, rfl, rfl, by rw [h0]; rfl, rfl, trivial⟩ (by rw [h0]; trivial) (fun i _ => by cases T i <;> exact ⟨rfl, rfl⟩) ?_
  intro i hi
  rcases Nat.lt_or_ge i L.length with hil | hil
  · obtain ⟨x, hx⟩ : ∃ x, L[i]? = some x := ⟨_, List.getElem?_eq_getElem hil⟩
    obtain ⟨_, ad, rfl, _⟩ := hL.ptr (by omega)
    have e0 := fun (w' : World) (hb : Below w.heap.size w w') => rd_ati (hL.below hb) hx
    have g0 := fun (w' : World) (hb : Below w.heap.size w w') => rd_fld (hL.below hb) hx 0 (iv x.day) rfl
    have ht := hstep i x hx
    have hli := hlen i
    clear hstep hlen hfl h0
    cases hTi : T i with
    | nil =>
      rw [hTi] at ht hli
      by_cases hxd : x.day ≤ d
      all_goals first | rw [if_pos hxd] at ht | rw [if_neg hxd] at ht
      all_goals skip
      repeat'
       conv => whnf
       first
        | refine zA ?_ | refine zB ?_ | refine zC ?_ | refine zD ?_ | refine zE ?_ | refine zF ?_ | refine zG ?_ | refine zH ?_ | refine zJ ?_ | refine zI ?_ | refine splT ?_ | refine splF ?_ | refine splNot ?_
        | ((first | refine splIn (fun hc => ?_) (fun hc => ?_) | refine splD (fun hc => ?_) (fun hc => ?_) | refine splE (fun hc => ?_) (fun hc => ?_) | refine splNE (fun hc => ?_) (fun hc => ?_)) <;> first | (exfalso; omega) | (exfalso; dsimp only at hc; omega) | skip)
        | refine Exists.intro (α := List Value) [iv x.day] ⟨⟨rfl, fun w' hw' => g0 w' hw'⟩, ?_⟩
        | refine Exists.intro (α := List Value) (En.cs x) ⟨⟨rfl, fun w' hw' => e0 w' hw'⟩, ?_⟩
      all_goals first | (exfalso; omega) | exact ⟨i + 1, by omega, by omega, Ent.ren (rho [(0, 3), (1, 4)]) rfl (by rw [ht]; rfl) ⟨rfl, rfl, rfl, rfl, rfl, rfl, by rw [ht]; rfl, rfl, trivial⟩ (by rw [ht]; exact ⟨rfl, trivial⟩) fun _ h => h⟩ | exact ⟨i + 1, by omega, by omega, Ent.weak rfl ⟨rfl, rfl, rfl, rfl, rfl, rfl, by rw [ht]; rfl, rfl, trivial⟩ (by rw [ht]; trivial) fun _ h => h⟩
    | cons a L0 =>
      rw [hTi] at ht hli
      simp only [List.length_cons] at hli
      by_cases hxd : x.day ≤ d
      all_goals first | rw [if_pos hxd] at ht | rw [if_neg hxd] at ht
      all_goals skip
      repeat'
       conv => whnf
       first
        | refine zA ?_ | refine zB ?_ | refine zC ?_ | refine zD ?_ | refine zE ?_ | refine zF ?_ | refine zG ?_ | refine zH ?_ | refine zJ ?_ | refine zI ?_ | refine splT ?_ | refine splF ?_ | refine splNot ?_
        | ((first | refine splIn (fun hc => ?_) (fun hc => ?_) | refine splD (fun hc => ?_) (fun hc => ?_) | refine splE (fun hc => ?_) (fun hc => ?_) | refine splNE (fun hc => ?_) (fun hc => ?_)) <;> first | (exfalso; omega) | (exfalso; dsimp only at hc; omega) | skip)
        | refine Exists.intro (α := List Value) [iv x.day] ⟨⟨rfl, fun w' hw' => g0 w' hw'⟩, ?_⟩
        | refine Exists.intro (α := List Value) (En.cs x) ⟨⟨rfl, fun w' hw' => e0 w' hw'⟩, ?_⟩
      all_goals first | (exfalso; omega) | exact ⟨i + 1, by omega, by omega, Ent.ren (rho [(0, 3), (1, 4)]) rfl (by rw [ht]; rfl) ⟨rfl, rfl, rfl, rfl, rfl, rfl, by rw [ht]; simp [oSV]; rfl, rfl, trivial⟩ (by rw [ht]; exact ⟨by simp [oM]; rfl, trivial⟩) fun _ h => h⟩ | exact ⟨i + 1, by omega, by omega, Ent.weak rfl ⟨rfl, rfl, rfl, rfl, rfl, rfl, by rw [ht]; rfl, rfl, trivial⟩ (by rw [ht]; exact ⟨rfl, trivial⟩) fun _ h => h⟩
  · obtain rfl : i = L.length := by omega
    rw [hfl]
    cases Lb with
    | nil =>
      repeat'
       conv => whnf
       first
        | refine zA ?_ | refine zB ?_ | refine zC ?_ | refine zD ?_ | refine zE ?_ | refine zF ?_ | refine zG ?_ | refine zH ?_ | refine zJ ?_ | refine zI ?_ | refine splT ?_ | refine splF ?_ | refine splNot ?_
        | ((first | refine splIn (fun hc => ?_) (fun hc => ?_) | refine splD (fun hc => ?_) (fun hc => ?_) | refine splE (fun hc => ?_) (fun hc => ?_) | refine splNE (fun hc => ?_) (fun hc => ?_)) <;> first | (exfalso; omega) | (exfalso; dsimp only at hc; omega) | skip)
      all_goals first | (exfalso; omega) | exact ⟨rfl, Dis.mk [] (fun i hi => by simp at hi) fun β w1 hb hw => ⟨(none, 0), trivial, ⟨⟨_, rfl, rfl⟩, ⟨_, rfl, rfl⟩, ⟨_, rfl, rfl⟩, ⟨_, rfl, rfl⟩, ⟨_, rfl, rfl⟩, ⟨_, rfl, rfl⟩, ⟨_, rfl, rfl⟩, trivial⟩, trivial, fun w2 h2 hb2 => ⟨h2, .inl ⟨rfl, rfl⟩⟩⟩⟩
    | cons b0 L1 =>
      repeat'
       conv => whnf
       first
        | refine zA ?_ | refine zB ?_ | refine zC ?_ | refine zD ?_ | refine zE ?_ | refine zF ?_ | refine zG ?_ | refine zH ?_ | refine zJ ?_ | refine zI ?_ | refine splT ?_ | refine splF ?_ | refine splNot ?_
        | ((first | refine splIn (fun hc => ?_) (fun hc => ?_) | refine splD (fun hc => ?_) (fun hc => ?_) | refine splE (fun hc => ?_) (fun hc => ?_) | refine splNE (fun hc => ?_) (fun hc => ?_)) <;> first | (exfalso; omega) | (exfalso; dsimp only at hc; omega) | skip)
      all_goals first | (exfalso; omega) | exact ⟨rfl, Dis.mk [0] (fun i hi => by simp at hi; subst hi; exact ⟨_, rfl, rfl⟩) fun β w1 hb hw => ⟨(some ⟨β 0, 0, none⟩, β 1), trivial, ⟨⟨_, rfl, rfl⟩, ⟨_, rfl, rfl⟩, ⟨_, rfl, rfl⟩, ⟨_, rfl, rfl⟩, ⟨_, rfl, rfl⟩, ⟨_, rfl, rfl⟩, ⟨_, rfl, rfl⟩, trivial⟩, trivial, fun w2 h2 hb2 => ⟨h2, Rd.of_owns (sz := 4) (f := En.cs) (fun _ => rfl) rfl rfl (hb2 0 (by simp) _ rfl)⟩⟩⟩
end Go.Proofs.Ytaciigegbgnadaa
