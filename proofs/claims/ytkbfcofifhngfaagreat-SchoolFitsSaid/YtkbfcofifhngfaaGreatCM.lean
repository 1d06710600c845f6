/- Fits (28): whether a timetable fits. -/
import Derived.Test.YtkbfcofifhngfaaGreatCL
namespace Go.Proofs.YtkbfcofifhngfaaGreat
open Go Tx Go.RowKit
set_option linter.unusedSimpArgs false
set_option linter.unusedVariables false

/-- The hours of a group in a subject, at the place of both. -/
def cellG (C : List (List Int)) (p : Nat) : Int := ((C[p / 6]?).getD []).getD (p % 6) 0
def b2i (b : Bool) : Int := bif b then 1 else 0
/-- How many lessons are of a group and subject. -/
def cntP (X : List Ln) (p : Nat) : Int := (X.map fun x => b2i (decide (x.g = ((p / 6 : Nat) : Int) ∧ x.j = ((p % 6 : Nat) : Int)))).sum
/-- How many lessons are a teacher's. -/
def cntT (X : List Ln) (t : Nat) : Int := (X.map fun x => b2i (decide (x.t = (t : Int)))).sum
theorem b2i_bd (b : Bool) : 0 ≤ b2i b ∧ b2i b ≤ 1 := by cases b <;> decide
theorem sum_bd {α : Type} (f : α → Bool) : ∀ l : List α, 0 ≤ (l.map fun x => b2i (f x)).sum ∧ (l.map fun x => b2i (f x)).sum ≤ l.length
  | [] => by simp
  | x :: l => by
    have := sum_bd f l
    have h := b2i_bd (f x)
    simp only [List.map_cons, List.sum_cons, List.length_cons]
    omega
theorem sum_take {f : Ln → Int} {X : List Ln} {k : Nat} {x : Ln} (h : X[k]? = some x) : ((X.take (k + 1)).map f).sum = ((X.take k).map f).sum + f x := by
  rw [List.take_add_one, h]; simp
/-- Does a timetable fit? -/
def fitB (s : SD) (X : List (List Ln)) : Bool := scOk s && (decide ((X.length : Int) = s.sl) && (X.all (sltB s) && (alN (fun t => decide (cntT X.flatten t ≤ (s.T.getD t ([], 0)).2)) s.T.length && alN (fun p => cellG s.G p - cntP X.flatten p == 0) 48)))
theorem cellG_step {C : List (List Int)} {k : Nat} {xs : List Int} (h : C[k]? = some xs) (hx : xs.length ≤ 6) (hk : k < 8) :
    (tbS 48 (cellG (C.take k))).take (k * 6) ++ (xs.map iv).map .v ++ (tbS 48 (cellG (C.take k))).drop (k * 6 + xs.length) = tbS 48 (cellG (C.take (k + 1))) := by
  have hkl : k < C.length := (List.getElem?_eq_some_iff.1 h).1
  rw [tbS_blit _ _ (by omega)]
  refine tbS_congr fun q hq => ?_
  unfold cellG
  rw [List.getElem?_take, List.getElem?_take]
  by_cases h1 : k * 6 ≤ q ∧ q < k * 6 + xs.length
  · rw [if_pos h1, if_pos (by omega), show q / 6 = k by omega, h, show q % 6 = q - k * 6 by omega]; rfl
  · rw [if_neg h1]
    by_cases h2 : q / 6 < k
    · rw [if_pos h2, if_pos (by omega)]
    · rw [if_neg h2]
      by_cases h3 : q / 6 < k + 1
      · rw [if_pos h3, show q / 6 = k by omega, h]
        show (0 : Int) = xs.getD (q % 6) 0
        rw [List.getD_eq_getElem?_getD, List.getElem?_eq_none (by omega)]; rfl
      · rw [if_neg h3]
theorem fIv (A : List Int) : A.flatMap iF = A.map iv := by
  induction A with
  | nil => rfl
  | cons a l ih => rw [List.flatMap_cons, List.map_cons, ih]; rfl
theorem sltB_les {s : SD} {X : List (List Ln)} (h : X.all (sltB s) = true) {x : Ln} (hx : x ∈ X.flatten) : lesB s x = true := by
  obtain ⟨L, hL, hxL⟩ := List.mem_flatten.1 hx
  have := List.all_eq_true.1 h L hL
  unfold sltB at this
  simp only [Bool.and_eq_true] at this
  exact List.all_eq_true.1 this.2.1 x hxL
theorem lesB_bd {s : SD} {x : Ln} (h : lesB s x = true) : (0 ≤ x.g ∧ x.g ≤ s.G.length - 1) ∧ (0 ≤ x.j ∧ x.j ≤ s.su - 1) ∧ (0 ≤ x.t ∧ x.t ≤ s.T.length - 1) := by
  unfold lesB at h
  simp only [Bool.and_eq_true, inB_iff] at h
  exact ⟨h.1, h.2.1, h.2.2.1⟩
theorem cntP_step {X : List Ln} {k : Nat} {x : Ln} (h : X[k]? = some x) {a b : Nat} (ha : x.g = a) (hb : x.j = b) (hb6 : b < 6) (f : Nat → Int) :
    updF (fun p => f p - cntP (X.take k) p) (a * 6 + b) (f (a * 6 + b) - cntP (X.take k) (a * 6 + b) - 1) = fun p => f p - cntP (X.take (k + 1)) p := by
  funext p
  unfold updF cntP
  rw [sum_take h]
  by_cases hp : p = a * 6 + b
  · subst hp
    rw [if_pos rfl, show b2i (decide (x.g = (((a * 6 + b) / 6 : Nat) : Int) ∧ x.j = (((a * 6 + b) % 6 : Nat) : Int))) = 1 from by rw [decide_eq_true ⟨by omega, by omega⟩]; rfl]
    omega
  · rw [if_neg hp, show b2i (decide (x.g = ((p / 6 : Nat) : Int) ∧ x.j = ((p % 6 : Nat) : Int))) = 0 from by rw [decide_eq_false (fun h => by omega)]; rfl]
    dsimp only
    omega
theorem cntT_step {X : List Ln} {k : Nat} {x : Ln} (h : X[k]? = some x) {a : Nat} (ha : x.t = a) :
    updF (fun p => cntT (X.take k) p) a (cntT (X.take k) a + 1) = fun p => cntT (X.take (k + 1)) p := by
  funext p
  unfold updF cntT
  rw [sum_take h]
  by_cases hp : p = a
  · subst hp
    rw [if_pos rfl, show b2i (decide (x.t = (p : Int))) = 1 from by rw [decide_eq_true ha]; rfl]
  · rw [if_neg hp, show b2i (decide (x.t = (p : Int))) = 0 from by rw [decide_eq_false (fun h => by omega)]; rfl]
    dsimp only
    omega
theorem dropT {n p N : Nat} {f : Nat → Int} {K : List SV → Prop} (hn : n = p) (h : p < N) (hK : K (.v (iv (f p)) :: (tbS N f).drop (p + 1))) : dropK n (tbS N f) K := by
  subst hn; exact dropK_to (tbS_drop f h) hK
theorem splT48 {n p N : Nat} {f : Nat → Int} {v : Int} {K : List SV → Prop} (hn : n = p) (h : p < N) (hK : K (tbS N (updF f p v))) : splK n (tbS N f) [.v (iv v)] K := by
  subst hn; exact splK_to (by rw [tbS_len]; exact h) (tbS_set f v h) hK
theorem tbV_one {n p N : Nat} (hn : n = p) (f : Nat → Int) (h : p < N) : ∀ j v, [iv (f p)][j]? = some v → (tbV N f)[n + j]? = some v := fun j v hj => by
  match j, hj with
  | 0, hj => cases hj; subst hn; exact tbV_at f h
theorem tbV_setE {n o p : Nat} (f : Nat → Int) (v : Int) (ho : o = p) (h : p < n) : tbV n (updF f p v) = (tbV n f).take o ++ [iv v] ++ (tbV n f).drop (o + 1) := by
  subst ho; exact (tbV_set f v h).symm
theorem mk0 (n : Nat) : (tbV n fun _ => 0) = (List.replicate n [iv 0]).flatten := by
  induction n with
  | zero => rfl
  | succ n ih =>
    rw [tbV, List.range_succ, List.map_append, List.replicate_succ', List.flatten_append, ← ih]; rfl
theorem cellG_bd {s : Sc} (h : scOk s.d = true) (p : Nat) : 0 ≤ cellG (s.G.map Rw.xs) p ∧ cellG (s.G.map Rw.xs) p ≤ 20 := by
  obtain ⟨hv1, hv2, hv3, hv4, hv5, hv6, hv7⟩ := scOk_iff.1 h
  change (s.G.map Rw.xs).all (grB s.su) = true at hv6
  unfold cellG
  cases hx : (s.G.map Rw.xs)[p / 6]? with
  | none => simp
  | some xs =>
    have := List.all_eq_true.1 hv6 xs (List.mem_of_getElem? hx)
    unfold grB evB at this
    simp only [Bool.and_eq_true, List.all_eq_true] at this
    rw [Option.getD_some, List.getD_eq_getElem?_getD]
    cases hy : xs[p % 6]? with
    | none => simp
    | some v =>
      have := inB_iff.1 (this.2 v (List.mem_of_getElem? hy))
      simpa using this
set_option maxHeartbeats 4000000 in
set_option maxRecDepth 100000 in
theorem Fits_ok (s : Sc) (S : List Lr) (o : Option Addr) (c : Nat) (w : World) (h : ScIn s w) (hB : ScB s) (hT : TbL o c S w) (hl : S.length ≤ 45) (hrl : ∀ r ∈ S, r.L.length ≤ 10) (hc : ∀ r ∈ S, r.L.length ≤ r.c ∧ (r.L = [] → r.o = none ∧ r.c = 0)) :
    Calls Tryz.prog 28 #[s.v, .slice o S.length c] w fun e w' => e = .returned (.bool (fitB s.d (S.map Lr.L))) ∧ Below w.heap.size w w' := by
  have c37 := fun (w' : World) (hw : Below w.heap.size w w') => valid_ok s w' (h.below hw) hB
  have c69 := fun (w' : World) (hw : Below w.heap.size w w') => (Concat_ok o c S w' (hT.below hw) hl hrl (fun r hr => (hc r hr).2)).mono fun e w2 ⟨y, h1, h2, h3⟩ => (⟨⟨y, rd_ys (St.now h3)⟩, h1, h2, h3⟩ : ∃ y : YS (flL S), e = Ending.returned (sV (flL S).length y.1) ∧ Below w'.heap.size w' w2 ∧ St w'.heap.size (Rd 3 Ln.cs (sV (flL S).length y.1) (flL S)) w2)
  unfold fitB
  cases hv : scOk s.d with
  | false =>
    rw [hv] at c37
    obtain ⟨sl, ro, su, go, gc, G, to, tc, T⟩ := s
    refine calls_val env mixed Tryz.func28 has28 Tryz.ntmps28 [.agg #[iv sl, iv ro, iv su, .slice go G.length gc, .slice to T.length tc], .slice o S.length c] (by simp) ?_
    repeat'
     conv => whnf
     first
      | refine zA ?_ | refine zB ?_ | refine zC ?_ | refine zD ?_ | refine zE ?_ | refine zF ?_ | refine zG ?_ | refine zH ?_ | refine zJ ?_ | refine zI ?_ | refine splT ?_ | refine splF ?_ | refine splNot ?_
      | ((first | refine splIn (fun hc => ?_) (fun hc => ?_) | refine splD (fun hc => ?_) (fun hc => ?_) | refine splE (fun hc => ?_) (fun hc => ?_) | refine splNE (fun hc => ?_) (fun hc => ?_)) <;> first | (exfalso; omega) | (exfalso; dsimp only at hc; omega) | skip)
      | ((with_reducible show CallEv _ _ 37 _ _ _ _ _); refine callE (k := 37) (fun β w' hbw => c37 _ hbw) ?_)
    all_goals first | exact ⟨fun β => rfl, fun w' h => h⟩ | (exfalso; omega)
  | true =>
    rw [hv] at c37
    have hs : -1000000 ≤ s.su ∧ s.su ≤ 1000000 := by
      have h1 : 1 ≤ s.su ∧ s.su ≤ 6 := (scOk_iff.1 hv).2.2.1
      omega
    have c67 := fun (w' : World) (hw : Below w.heap.size w w') => all67_ok s S o c w' (h.below hw) hB hs (hT.below hw) (by omega) (fun r hr => by have := hrl r hr; omega) (fun r hr => (hc r hr).1)
    by_cases hsl : (S.length : Int) = s.d.sl
    · rw [List.length_map, decide_eq_true hsl]
      cases ha : (S.map Lr.L).all (sltB s.d) with
      | false =>
        rw [ha] at c67
        obtain ⟨sl, ro, su, go, gc, G, to, tc, T⟩ := s
        dsimp only [Sc.d] at hsl
        refine calls_val env mixed Tryz.func28 has28 Tryz.ntmps28 [.agg #[iv sl, iv ro, iv su, .slice go G.length gc, .slice to T.length tc], .slice o S.length c] (by simp) ?_
        repeat'
         conv => whnf
         first
          | refine zA ?_ | refine zB ?_ | refine zC ?_ | refine zD ?_ | refine zE ?_ | refine zF ?_ | refine zG ?_ | refine zH ?_ | refine zJ ?_ | refine zI ?_ | refine splT ?_ | refine splF ?_ | refine splNot ?_
          | ((first | refine splIn (fun hc => ?_) (fun hc => ?_) | refine splD (fun hc => ?_) (fun hc => ?_) | refine splE (fun hc => ?_) (fun hc => ?_) | refine splNE (fun hc => ?_) (fun hc => ?_)) <;> first | (exfalso; omega) | (exfalso; dsimp only at hc; omega) | skip)
          | ((with_reducible show CallEv _ _ 37 _ _ _ _ _); refine callE (k := 37) (fun β w' hbw => c37 _ hbw) ?_)
          | refine mkMv (.agg #[iv sl, iv ro, iv su, .slice go G.length gc, .slice to T.length tc]) rfl (fun _ => rfl) rfl ?_
          | ((with_reducible show CallEv _ _ 67 _ _ _ _ _); refine callE (k := 67) (fun β w' hbw => c67 _ hbw) ?_)
        all_goals first | exact ⟨fun β => rfl, fun w' h => h⟩ | (exfalso; omega)
      | true =>
        rw [ha] at c67
        obtain ⟨hv1, hv2, hv3, hv4, hv5, hv6, hv7⟩ := scOk_iff.1 hv
        have hles := fun (x : Ln) (hx : x ∈ (S.map Lr.L).flatten) => lesB_bd (sltB_les ha hx)
        have hflat : flL S = (S.map Lr.L).flatten := rfl
        rw [← hflat] at hles ⊢
        have hM : (flL S).length ≤ 450 := by
          have := flL_le (m := 10) (k := S.length) hrl
          rw [List.take_length] at this
          omega
        obtain ⟨hg, hr, ht, hh⟩ := h
        obtain ⟨sl, ro, su, go, gc, G, to, tc, T⟩ := s
        unfold Sc.d at hv1 hv2 hv3 hv4 hv5 hv6 hv7 hles ⊢
        dsimp only [Sc.d] at hsl
        dsimp only at hv1 hv2 hv3 hv4 hv5 hv6 hv7 hles hg hr ht hh c37 c67 c69 ⊢
        rw [List.length_map] at hv4 hv5
        simp only [List.length_map] at hles ⊢
        refine calls_val env mixed Tryz.func28 has28 Tryz.ntmps28 [.agg #[iv sl, iv ro, iv su, .slice go G.length gc, .slice to T.length tc], .slice o S.length c] (by simp) ?_
        repeat'
         conv => whnf
         first
          | refine zA ?_ | refine zB ?_ | refine zC ?_ | refine zD ?_ | refine zE ?_ | refine zF ?_ | refine zG ?_ | refine zH ?_ | refine zJ ?_ | refine zI ?_ | refine splT ?_ | refine splF ?_ | refine splNot ?_
          | ((first | refine splIn (fun hc => ?_) (fun hc => ?_) | refine splD (fun hc => ?_) (fun hc => ?_) | refine splE (fun hc => ?_) (fun hc => ?_) | refine splNE (fun hc => ?_) (fun hc => ?_)) <;> first | (exfalso; omega) | (exfalso; dsimp only at hc; omega) | skip)
          | ((with_reducible show CallEv _ _ 37 _ _ _ _ _); refine callE (k := 37) (fun β w' hbw => c37 _ hbw) ?_)
          | refine mkMv (.agg #[iv sl, iv ro, iv su, .slice go G.length gc, .slice to T.length tc]) rfl (fun _ => rfl) rfl ?_
          | ((with_reducible show CallEv _ _ 67 _ _ _ _ _); refine callE (k := 67) (fun β w' hbw => c67 _ hbw) ?_)
        conv => whnf
        refine loopN 2 (fun k : Nat => [(1, .v (.slice o S.length c)), (2, .ptr 0 0), (5, .ptr 1 0), (31, .v (.slice go G.length gc)), (32, .v (iv G.length)), (33, .v (iv k))]) (fun k => [(0, .cells [.v (iv sl), .v (iv ro), .v (iv su), .v (.slice go G.length gc), .v (.slice to T.length tc)] 34), (1, .cells (tbS 48 (cellG ((G.map Rw.xs).take k))) 117)]) (fun k => k ≤ G.length) (fun k => G.length - k) 0 (Nat.zero_le _) ⟨rfl, rfl, rfl, rfl, rfl, rfl, trivial⟩ ⟨rfl, rfl, trivial⟩ (fun k _ => ⟨rfl, by show (Nat.blt 0 2 && _ && (Nat.blt 1 2 && SV.lts 2 (tbS 48 _) && _)) = true; rw [tbS_lt]; rfl⟩) ?_
        · intro k hk
          rcases Nat.lt_or_ge k G.length with hkl | hkl
          · obtain ⟨⟨ro', rc, xs⟩, hx⟩ : ∃ b, G[k]? = some b := ⟨_, List.getElem?_eq_getElem hkl⟩
            obtain ⟨_, ad, rfl, _⟩ := hg.ptr (by omega)
            have e0 := fun (w' : World) hw' => rd_ati (hg.below (w' := w') hw') hx
            have hrr := hr _ (List.mem_of_getElem? hx)
            have hmx : (G.map Rw.xs)[k]? = some xs := by rw [List.getElem?_map, hx]; rfl
            have hgr := List.all_eq_true.1 hv6 xs (List.mem_of_getElem? hmx)
            unfold grB at hgr
            simp only [Bool.and_eq_true, decide_eq_true_eq] at hgr
            have hxl : xs.length ≤ 6 := by omega
            change Rd 1 iF (.slice ro' xs.length rc) xs w at hrr
            have hst := cellG_step hmx hxl (by omega)
            have hso : ro' = none → xs.length = 0 := fun h => by
              subst h
              rcases hrr with ⟨_, h⟩ | ⟨ad, d, h, _⟩
              · rw [h]; rfl
              · cases h
            have hcp : ∀ ad, ro' = some ad → ∀ w', Below w.heap.size w w' → ∀ j v, (xs.map iv)[j]? = some v → w'.cell? (ad.add j) = some v := fun ad h w' hw' j v hj => by
              subst h
              have := Rd.ext (f := iF) (sz := 1) (fun _ => rfl) (hrr.below hw')
              rw [fIv] at this
              exact this j v hj
            repeat'
             conv => whnf
             first
              | refine zA ?_ | refine zB ?_ | refine zC ?_ | refine zD ?_ | refine zE ?_ | refine zF ?_ | refine zG ?_ | refine zH ?_ | refine zJ ?_ | refine zI ?_ | refine splT ?_ | refine splF ?_ | refine splNot ?_
              | ((first | refine splIn (fun hc => ?_) (fun hc => ?_) | refine splD (fun hc => ?_) (fun hc => ?_) | refine splE (fun hc => ?_) (fun hc => ?_) | refine splNE (fun hc => ?_) (fun hc => ?_)) <;> first | (exfalso; omega) | (exfalso; dsimp only at hc; omega) | skip)
              | refine Exists.intro (α := List Value) [.slice ro' xs.length rc] ⟨⟨rfl, fun w' hw' => e0 w' hw'⟩, ?_⟩
              | refine copyE env (xs.map iv) rfl rfl rfl rfl rfl rfl (by omega) (by simp) (by rw [tbS_len]; show 0 + k * 6 + xs.length ≤ 48; omega) (fun v hv => by obtain ⟨a, _, rfl⟩ := List.mem_map.1 hv; rfl) hso hcp (tbS 48 (cellG ((G.map Rw.xs).take (k + 1)))) (by show (tbS 48 _).take (0 + k * 6) ++ _ ++ (tbS 48 _).drop (0 + k * 6 + _) = _; rw [Nat.zero_add]; exact hst) rfl (tbS_lt _ _ _) ?_
            all_goals first | (exfalso; omega) | exact ⟨k + 1, by omega, by omega, Ent.weak rfl ⟨rfl, rfl, rfl, rfl, rfl, rfl, trivial⟩ ⟨rfl, rfl, trivial⟩ fun _ h => h⟩
          · obtain rfl : k = G.length := by omega
            rw [List.take_of_length_le (by rw [List.length_map]; exact Nat.le_refl _)]
            generalize hCG : cellG (G.map Rw.xs) = CG at *
            repeat'
             conv => whnf
             first
              | refine zA ?_ | refine zB ?_ | refine zC ?_ | refine zD ?_ | refine zE ?_ | refine zF ?_ | refine zG ?_ | refine zH ?_ | refine zJ ?_ | refine zI ?_ | refine splT ?_ | refine splF ?_ | refine splNot ?_
              | ((first | refine splIn (fun hc => ?_) (fun hc => ?_) | refine splD (fun hc => ?_) (fun hc => ?_) | refine splE (fun hc => ?_) (fun hc => ?_) | refine splNE (fun hc => ?_) (fun hc => ?_)) <;> first | (exfalso; omega) | (exfalso; dsimp only at hc; omega) | skip)
              | refine mkO env 2 T.length (tbV T.length fun _ => 0) rfl rfl rfl (by decide) rfl (by omega) (by decide) (mk0 _) rfl ?_
              | ((with_reducible show CallEv _ _ 69 _ _ _ _ _); refine callF [] (fun y : YS (flL S) => sV (flL S).length y.1) (fun y => St w.heap.size (Rd 3 Ln.cs (sV (flL S).length y.1) (flL S))) (fun β w' _ hbw => famS (by repeat (first | exact hbw | replace hbw := hbw.1)) (c69 w' (by repeat (first | exact hbw | replace hbw := hbw.1)))) ?_; intro y)
            conv => whnf
            refine loopN 4 (fun k : Nat => [(2, .ptr 0 0), (5, .ptr 1 0), (8, .os 2 3 T.length), (49, .v (sV (flL S).length y.1)), (50, .v (iv (flL S).length)), (51, .v (iv k))]) (fun k => [(0, .cells [.v (iv sl), .v (iv ro), .v (iv su), .v (.slice go G.length gc), .v (.slice to T.length tc)] 34), (1, .cells (tbS 48 fun p => CG p - cntP ((flL S).take k) p) 117), (2, .own 3 T.length 1 (tbV T.length fun t => cntT ((flL S).take k) t) 3)]) (fun k => k ≤ (flL S).length) (fun k => (flL S).length - k) 0 (Nat.zero_le _) ⟨rfl, rfl, rfl, rfl, rfl, rfl, trivial⟩ ⟨rfl, by rw [show (fun p => CG p - cntP ((flL S).take 0) p) = CG from funext fun p => Int.sub_zero _]; rfl, rfl, trivial⟩ (fun k _ => ⟨rfl, by show (Nat.blt 0 4 && _ && (Nat.blt 1 4 && SV.lts 4 (tbS 48 _) && _)) = true; rw [tbS_lt]; rfl⟩) ?_
            intro k hk
            rcases Nat.lt_or_ge k (flL S).length with hkl | hkl
            · obtain ⟨x, hx⟩ : ∃ b, (flL S)[k]? = some b := ⟨_, List.getElem?_eq_getElem hkl⟩
              have hbd := hles x (List.mem_of_getElem? hx)
              obtain ⟨⟨a, ha'⟩, ⟨b, hb'⟩, ⟨d, hd'⟩⟩ : (∃ a : Nat, x.g = a) ∧ (∃ b : Nat, x.j = b) ∧ (∃ d : Nat, x.t = d) := ⟨Int.eq_ofNat_of_zero_le hbd.1.1, Int.eq_ofNat_of_zero_le hbd.2.1.1, Int.eq_ofNat_of_zero_le hbd.2.2.1⟩
              have hP := cntP_step hx ha' hb' (by omega) CG
              have hTT := cntT_step hx hd'
              have hb1 := sum_bd (fun x : Ln => decide (x.g = (((a * 6 + b) / 6 : Nat) : Int) ∧ x.j = (((a * 6 + b) % 6 : Nat) : Int))) ((flL S).take k)
              have hb2 := sum_bd (fun x : Ln => decide (x.t = (d : Int))) ((flL S).take k)
              have hlt := List.length_take_le k (flL S)
              have hcg := hCG ▸ cellG_bd (s := ⟨sl, ro, su, go, gc, G, to, tc, T⟩) hv (a * 6 + b)
              change 0 ≤ cntP ((flL S).take k) (a * 6 + b) ∧ cntP ((flL S).take k) (a * 6 + b) ≤ _ at hb1
              change 0 ≤ cntT ((flL S).take k) d ∧ cntT ((flL S).take k) d ≤ _ at hb2
              generalize hf1 : (fun p => CG p - cntP ((flL S).take k) p) = f1 at *
              generalize hf2 : (fun t => cntT ((flL S).take k) t) = f2 at *
              have hf1' : f1 (a * 6 + b) = CG (a * 6 + b) - cntP ((flL S).take k) (a * 6 + b) := by rw [← hf1]
              have hf2' : f2 d = cntT ((flL S).take k) d := by rw [← hf2]
              rw [← hf1'] at hP
              rw [← hf2'] at hTT
              obtain ⟨xg, xj, xt⟩ := x
              dsimp only at ha' hb' hd' hbd
              subst ha'; subst hb'; subst hd'
              obtain ⟨⟨yo, yc⟩, hy1⟩ := y
              obtain ⟨ad, rfl⟩ : ∃ ad, yo = some ad := hy1.resolve_left fun h => by rw [h] at hx; cases hx
              have e1 := fun (w' : World) (h : St w.heap.size (Rd 3 Ln.cs (.slice (some ad) (flL S).length yc) (flL S)) w') => rd_ati (St.now h) hx
              repeat'
               conv => whnf
               first
                | refine zA ?_ | refine zB ?_ | refine zC ?_ | refine zD ?_ | refine zE ?_ | refine zF ?_ | refine zG ?_ | refine zH ?_ | refine zJ ?_ | refine zI ?_ | refine splT ?_ | refine splF ?_ | refine splNot ?_
                | ((first | refine splIn (fun hc => ?_) (fun hc => ?_) | refine splD (fun hc => ?_) (fun hc => ?_) | refine splE (fun hc => ?_) (fun hc => ?_) | refine splNE (fun hc => ?_) (fun hc => ?_)) <;> first | (exfalso; omega) | (exfalso; dsimp only at hc; omega) | skip)
                | refine Exists.intro (α := List Value) [iv a, iv b, iv d] ⟨⟨rfl, fun w' hw' => e1 w' hw'.2⟩, ?_⟩
                | refine dropT (p := a * 6 + b) (by show 0 + a * 6 + b * 1 = a * 6 + b; omega) (by omega) ?_
                | refine splT48 (p := a * 6 + b) (by show 0 + a * 6 + b * 1 = a * 6 + b; omega) (by omega) ?_
                | refine Exists.intro (α := List Value) [iv (f2 d)] ⟨⟨rfl, tbV_one (by show d * 1 = d; omega) f2 (by omega)⟩, ?_⟩
                | refine And.intro (a := (_ : Nat) ≤ (tbV _ _).length) (by rw [tbV_len]; show d * 1 + 1 ≤ T.length; omega) ?_
              all_goals first | (exfalso; omega) | exact ⟨k + 1, by omega, by omega, Ent.weak rfl ⟨rfl, rfl, rfl, rfl, rfl, rfl, trivial⟩ ⟨rfl, by rw [← hP]; rfl, by rw [← hTT, tbV_setE (o := d * 1) f2 (f2 d + 1) (by omega) (by omega)]; rfl, trivial⟩ fun _ h => h⟩
            · obtain rfl : k = (flL S).length := by omega
              rw [List.take_length]
              generalize hf1 : (fun p => CG p - cntP (flL S) p) = f1 at *
              have hal : alN (fun p => CG p - cntP (flL S) p == 0) 48 = alN (fun p => f1 p == 0) 48 := by rw [← hf1]
              rw [hal]
              repeat'
               conv => whnf
               first
                | refine zA ?_ | refine zB ?_ | refine zC ?_ | refine zD ?_ | refine zE ?_ | refine zF ?_ | refine zG ?_ | refine zH ?_ | refine zJ ?_ | refine zI ?_ | refine splT ?_ | refine splF ?_ | refine splNot ?_
                | ((first | refine splIn (fun hc => ?_) (fun hc => ?_) | refine splD (fun hc => ?_) (fun hc => ?_) | refine splE (fun hc => ?_) (fun hc => ?_) | refine splNE (fun hc => ?_) (fun hc => ?_)) <;> first | (exfalso; omega) | (exfalso; dsimp only at hc; omega) | skip)
              refine loopN 4 (fun k : Nat => [(2, .ptr 0 0), (5, .ptr 1 0), (73, .os 2 3 T.length), (74, .v (iv T.length)), (75, .v (iv k))]) (fun k => [(0, .cells [.v (iv sl), .v (iv ro), .v (iv su), .v (.slice go G.length gc), .v (.slice to T.length tc)] 34), (1, .cells (tbS 48 f1) 117), (2, .own 3 T.length 1 (tbV T.length fun t => cntT (flL S) t) 3)]) (fun k => k ≤ T.length ∧ alN (fun t => decide (cntT (flL S) t ≤ ((T.map Tc.d).getD t ([], 0)).2)) k = true) (fun k => T.length - k) 0 ⟨Nat.zero_le _, rfl⟩ ⟨rfl, rfl, rfl, rfl, rfl, trivial⟩ ⟨rfl, rfl, rfl, trivial⟩ (fun k _ => ⟨rfl, by show (Nat.blt 0 4 && _ && (Nat.blt 1 4 && SV.lts 4 (tbS 48 _) && _)) = true; rw [tbS_lt]; rfl⟩) ?_
              intro k ⟨hk, hall⟩
              rcases Nat.lt_or_ge k T.length with hkl | hkl
              · obtain ⟨⟨to', tc', xs, hh'⟩, hx⟩ : ∃ b, T[k]? = some b := ⟨_, List.getElem?_eq_getElem hkl⟩
                obtain ⟨_, ad, rfl, _⟩ := ht.ptr (by omega)
                have e1 := fun (w' : World) hw' => rd_fld (ht.below (w' := w') hw') hx
                have hget : ((T.map Tc.d).getD k ([], 0)).2 = hh' := by
                  rw [List.getD_eq_getElem?_getD, List.getElem?_map, hx]; rfl
                by_cases hle : cntT (flL S) k ≤ hh'
                · have hn : alN (fun t => decide (cntT (flL S) t ≤ ((T.map Tc.d).getD t ([], 0)).2)) (k + 1) = true := by rw [alN, hall, hget, decide_eq_true hle]; rfl
                  repeat'
                   conv => whnf
                   first
                    | refine zA ?_ | refine zB ?_ | refine zC ?_ | refine zD ?_ | refine zE ?_ | refine zF ?_ | refine zG ?_ | refine zH ?_ | refine zJ ?_ | refine zI ?_ | refine splT ?_ | refine splF ?_ | refine splNot ?_
                    | ((first | refine splIn (fun hc => ?_) (fun hc => ?_) | refine splD (fun hc => ?_) (fun hc => ?_) | refine splE (fun hc => ?_) (fun hc => ?_) | refine splNE (fun hc => ?_) (fun hc => ?_)) <;> first | (exfalso; omega) | (exfalso; dsimp only at hc; omega) | skip)
                    | refine Exists.intro (α := List Value) [iv (cntT (flL S) k)] ⟨⟨rfl, tbV_one (by show k * 1 = k; omega) (fun t => cntT (flL S) t) (by omega)⟩, ?_⟩
                    | refine Exists.intro (α := List Value) [iv hh'] ⟨⟨rfl, fun w' hw' => e1 w' hw'.1 1 _ rfl⟩, ?_⟩
                  all_goals first | (exfalso; omega) | exact ⟨k + 1, ⟨by omega, hn⟩, by omega, Ent.weak rfl ⟨rfl, rfl, rfl, rfl, rfl, trivial⟩ ⟨rfl, rfl, rfl, trivial⟩ fun _ h => h⟩
                · rw [alN_no hkl (by rw [hget]; exact decide_eq_false hle)]
                  repeat'
                   conv => whnf
                   first
                    | refine zA ?_ | refine zB ?_ | refine zC ?_ | refine zD ?_ | refine zE ?_ | refine zF ?_ | refine zG ?_ | refine zH ?_ | refine zJ ?_ | refine zI ?_ | refine splT ?_ | refine splF ?_ | refine splNot ?_
                    | ((first | refine splIn (fun hc => ?_) (fun hc => ?_) | refine splD (fun hc => ?_) (fun hc => ?_) | refine splE (fun hc => ?_) (fun hc => ?_) | refine splNE (fun hc => ?_) (fun hc => ?_)) <;> first | (exfalso; omega) | (exfalso; dsimp only at hc; omega) | skip)
                    | refine Exists.intro (α := List Value) [iv (cntT (flL S) k)] ⟨⟨rfl, tbV_one (by show k * 1 = k; omega) (fun t => cntT (flL S) t) (by omega)⟩, ?_⟩
                    | refine Exists.intro (α := List Value) [iv hh'] ⟨⟨rfl, fun w' hw' => e1 w' hw'.1 1 _ rfl⟩, ?_⟩
                  all_goals first | (exfalso; omega) | exact ⟨fun β => rfl, fun w' h => h.1⟩
              · obtain rfl : k = T.length := by omega
                rw [hall]
                repeat'
                 conv => whnf
                 first
                  | refine zA ?_ | refine zB ?_ | refine zC ?_ | refine zD ?_ | refine zE ?_ | refine zF ?_ | refine zG ?_ | refine zH ?_ | refine zJ ?_ | refine zI ?_ | refine splT ?_ | refine splF ?_ | refine splNot ?_
                  | ((first | refine splIn (fun hc => ?_) (fun hc => ?_) | refine splD (fun hc => ?_) (fun hc => ?_) | refine splE (fun hc => ?_) (fun hc => ?_) | refine splNE (fun hc => ?_) (fun hc => ?_)) <;> first | (exfalso; omega) | (exfalso; dsimp only at hc; omega) | skip)
                  | refine Exists.intro (α := Value) _ ⟨fun β => eq48 f1 _ _, ?_⟩
                all_goals first | (exfalso; omega) | exact ⟨fun β => rfl, fun w' h => h.1⟩
        all_goals first | exact ⟨fun β => rfl, fun w' h => h⟩ | (exfalso; omega)
    · rw [List.length_map, decide_eq_false hsl]
      obtain ⟨sl, ro, su, go, gc, G, to, tc, T⟩ := s
      dsimp only [Sc.d] at hsl
      refine calls_val env mixed Tryz.func28 has28 Tryz.ntmps28 [.agg #[iv sl, iv ro, iv su, .slice go G.length gc, .slice to T.length tc], .slice o S.length c] (by simp) ?_
      repeat'
       conv => whnf
       first
        | refine zA ?_ | refine zB ?_ | refine zC ?_ | refine zD ?_ | refine zE ?_ | refine zF ?_ | refine zG ?_ | refine zH ?_ | refine zJ ?_ | refine zI ?_ | refine splT ?_ | refine splF ?_ | refine splNot ?_
        | ((first | refine splIn (fun hc => ?_) (fun hc => ?_) | refine splD (fun hc => ?_) (fun hc => ?_) | refine splE (fun hc => ?_) (fun hc => ?_) | refine splNE (fun hc => ?_) (fun hc => ?_)) <;> first | (exfalso; omega) | (exfalso; dsimp only at hc; omega) | skip)
        | ((with_reducible show CallEv _ _ 37 _ _ _ _ _); refine callE (k := 37) (fun β w' hbw => c37 _ hbw) ?_)
      all_goals first | exact ⟨fun β => rfl, fun w' h => h⟩ | (exfalso; omega)
end Go.Proofs.YtkbfcofifhngfaaGreat
