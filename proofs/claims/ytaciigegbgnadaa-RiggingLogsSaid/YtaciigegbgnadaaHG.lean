/- RiggingLogs answers true. -/
import Derived.Test.YtaciigegbgnadaaHF
namespace Go.Proofs.Ytaciigegbgnadaa
open Go Tx Go.RowKit
set_option linter.unusedSimpArgs false
set_option linter.unusedVariables false

set_option maxHeartbeats 8000000 in
set_option maxRecDepth 100000 in
theorem RiggingLogs_ok (G : List (Int × Int)) (L : List En) (o p : Option Addr) (c d : Nat) (day num hrs : Int) (w : World) (hG : Rd 2 gF (.slice o G.length c) G w) (hL : Rd 4 En.cs (.slice p L.length d) L w) (hg : G.length ≤ 9223372036854775807) (hl : L.length ≤ 9223372036854775807) :
    Calls Try.prog 3 #[.slice o G.length c, .slice p L.length d, iv day, iv num, iv hrs] w fun e w' => e = .returned (.bool true) ∧ Below w.heap.size w w' := by
  refine calls_val env mixed Try.func3 has3 Try.ntmps3 [.slice o G.length c, .slice p L.length d, iv day, iv num, iv hrs] (by simp) ?_
  by_cases hbig : 25 < G.length ∨ 205 < L.length
  · skip
    repeat'
     conv => whnf
     first
      | refine zA ?_ | refine zB ?_ | refine zC ?_ | refine zD ?_ | refine zE ?_ | refine zF ?_ | refine zG ?_ | refine zH ?_ | refine zI ?_ | refine splT ?_ | refine splF ?_ | refine splNot ?_
      | ((first | refine splIn (fun hc => ?_) (fun hc => ?_) | refine splD (fun hc => ?_) (fun hc => ?_) | refine splE (fun hc => ?_) (fun hc => ?_) | refine splNE (fun hc => ?_) (fun hc => ?_)) <;> first | (exfalso; omega) | (exfalso; dsimp only at hc; omega) | skip)
      | ((with_reducible show CallEv _ _ 16 _ _ _ _ _); refine callE (k := 16) (fun β w' hbw => awake_ok _) ?_)
    all_goals first | (exfalso; omega) | exact ⟨fun β => rfl, fun w' h => h⟩
  have hg1 : G.length ≤ 25 := by omega
  have hl1 : L.length ≤ 205 := by omega
  have h18 := fun (w' : World) (hb : Below w.heap.size w w') => Gears_ok G o c w' (hG.below hb) (by omega)
  have h19 := fun (w' : World) (hb : Below w.heap.size w w') => Log_ok L p d w' (hL.below hb) (by omega)
  have h17 := fun (o p : Option Addr) (c d : Nat) (w' : World) (hG : Rd 2 gF (.slice o G.length c) G w') (hL : Rd 4 En.cs (.slice p L.length d) L w') => Stale_ok G L o p c d day w' hG hL (by omega) (by omega)
  have h20 := fun (o p : Option Addr) (c d : Nat) (w' : World) (hG : Rd 2 gF (.slice o G.length c) G w') (hL : Rd 4 En.cs (.slice p L.length d) L w') => Until_ok G L o p c d num day hrs w' hG hL (by omega) (by omega)
  have h21 := fun (w' : World) (hb : Below w.heap.size w w') => LogFault_ok G L o p c d w' (hG.below hb) (hL.below hb) (by omega) (by omega)
  have h22 := fun (o p : Option Addr) (c d : Nat) (w' : World) (hG : Rd 2 gF (.slice o G.length c) G w') (hL : Rd 4 En.cs (.slice p L.length d) L w') => CheckLog_ok G L o p c d w' hG hL (by omega) (by omega)
  by_cases he : lgE G L ≠ 0
  · rw [show staR G L day = [] from if_neg fun h => he h.1, show staE G L day = lgE G L from if_neg he] at h17
    rw [show untR G L num day hrs = 0 from by unfold untR; split <;> first | rfl | exact if_neg fun h => he h.1, show untE G L num day hrs = lgE G L from if_neg he] at h20
    generalize lgE G L = E at *
    repeat'
     conv => whnf
     first
      | refine zA ?_ | refine zB ?_ | refine zC ?_ | refine zD ?_ | refine zE ?_ | refine zF ?_ | refine zG ?_ | refine zH ?_ | refine zI ?_ | refine splT ?_ | refine splF ?_ | refine splNot ?_
      | ((first | refine splIn (fun hc => ?_) (fun hc => ?_) | refine splD (fun hc => ?_) (fun hc => ?_) | refine splE (fun hc => ?_) (fun hc => ?_) | refine splNE (fun hc => ?_) (fun hc => ?_)) <;> first | (exfalso; omega) | (exfalso; dsimp only at hc; omega) | skip)
      | ((with_reducible show CallEv _ _ 16 _ _ _ _ _); refine callE (k := 16) (fun β w' hbw => awake_ok _) ?_)
      | ((with_reducible show CallEv _ _ 18 _ _ _ _ _); refine callF [] (fun y : Option Addr × Nat => sV G.length y) (fun y => Rd 2 gF (sV G.length y) G) (fun β w' _ hbw => h18 w' (by first | exact hbw | exact hbw.1 | exact hbw.1.1 | exact hbw.1.1.1 | exact hbw.1.1.1.1 | exact hbw.1.1.1.1.1 | exact hbw.1.1.1.1.1.1 | exact hbw.1.1.1.1.1.1.1)) ?_; intro y; obtain ⟨y1, y2⟩ := y; dsimp only)
      | ((with_reducible show CallEv _ _ 19 _ _ _ _ _); refine callF [] (fun y : Option Addr × Nat => sV L.length y) (fun y => Rd 4 En.cs (sV L.length y) L) (fun β w' _ hbw => h19 w' (by first | exact hbw | exact hbw.1 | exact hbw.1.1 | exact hbw.1.1.1 | exact hbw.1.1.1.1 | exact hbw.1.1.1.1.1 | exact hbw.1.1.1.1.1.1 | exact hbw.1.1.1.1.1.1.1)) ?_; intro y; obtain ⟨y1, y2⟩ := y; dsimp only)
      | ((with_reducible show CallEv _ _ 17 _ _ _ _ _); refine callF [] (fun y : Option Addr × Nat => .tuple #[sV 0 y, iv E]) (fun y => Rd 1 iF (sV 0 y) []) (fun β w' _ hbw => h17 _ _ _ _ w' hbw.1.2 hbw.2) ?_; intro y; obtain ⟨y1, y2⟩ := y; dsimp only)
      | ((with_reducible show CallEv _ _ 20 _ _ _ _ _); refine callE (k := 20) (fun β w' hbw => h20 _ _ _ _ _ hbw.1.2 hbw.2) ?_)
      | ((with_reducible show CallEv _ _ 21 _ _ _ _ _); refine callE (k := 21) (fun β w' hbw => h21 _ (by first | exact hbw | exact hbw.1 | exact hbw.1.1 | exact hbw.1.1.1 | exact hbw.1.1.1.1 | exact hbw.1.1.1.1.1 | exact hbw.1.1.1.1.1.1 | exact hbw.1.1.1.1.1.1.1)) ?_)
      | ((with_reducible show CallEv _ _ 22 _ _ _ _ _); refine callE (k := 22) (fun β w' hbw => h22 _ _ _ _ _ hbw.1.2 hbw.2) ?_)
    all_goals first | (exfalso; omega) | exact ⟨fun β => rfl, fun w' h => (by first | exact h | exact h.1 | exact h.1.1 | exact h.1.1.1 | exact h.1.1.1.1 | exact h.1.1.1.1.1 | exact h.1.1.1.1.1.1 | exact h.1.1.1.1.1.1.1)⟩
  have he : lgE G L = 0 := by omega
  obtain ⟨b1, b2, b3, _, hE⟩ := lgE_ok he
  rw [he] at h21 h22
  by_cases hd : 0 ≤ day ∧ day ≤ 10000
  · rw [show staR G L day = staL G L day G.length from if_pos ⟨he, hd⟩, show staE G L day = 0 from by rw [staE, if_pos he, if_pos hd]] at h17
    have hS0 : staL G L day 0 = [] := rfl
    have hSl := staL_len G L day
    have hSs : ∀ k, staL G L day (k + 1) = staL G L day k ++ (if stI G L day k = true then [(k : Int)] else []) := fun k => rfl
    generalize hSn : staL G L day G.length = A at *
    generalize staL G L day = S at *
    by_cases hn : (0 ≤ num ∧ num ≤ G.length - 1) ∧ (0 ≤ day ∧ day ≤ 10000) ∧ (0 ≤ hrs ∧ hrs ≤ 24)
    · obtain ⟨n, rfl⟩ := Int.eq_ofNat_of_zero_le hn.1.1
      have hnl : n < G.length := by omega
      obtain ⟨g0, hx0⟩ : ∃ b, G[n]? = some b := ⟨_, List.getElem?_eq_getElem hnl⟩
      rw [show untR G L n day hrs = day + untN g0 (stL n day L) day hrs from by rw [untR, Int.toNat_natCast, hx0]; exact if_pos ⟨he, hn⟩, show untE G L n day hrs = 0 from by rw [untE, if_pos he, if_pos hn]] at h20
      have hg0 : g0.1 ≤ 2000 := by
        have := List.all_eq_true.1 b3 g0 (List.mem_of_getElem? hx0)
        unfold gOk at this
        rw [Bool.and_eq_true, inB_iff] at this
        omega
      have h26 := fun (w' : World) (hb : Below w.heap.size w w') => Runtil_ok g0 L p d n day hrs w' (hL.below hb) hE hg0 (by omega) (by omega)
      obtain ⟨_, ado, rfl, _⟩ := hG.ptr (by omega)
      have e26 := fun (w' : World) hw' => rd_ati (hG.below (w' := w') hw') hx0
      generalize day + (untN g0 (stL n day L) day hrs : Int) = U at *
      repeat'
       conv => whnf
       first
        | refine zA ?_ | refine zB ?_ | refine zC ?_ | refine zD ?_ | refine zE ?_ | refine zF ?_ | refine zG ?_ | refine zH ?_ | refine zI ?_ | refine splT ?_ | refine splF ?_ | refine splNot ?_
        | ((first | refine splIn (fun hc => ?_) (fun hc => ?_) | refine splD (fun hc => ?_) (fun hc => ?_) | refine splE (fun hc => ?_) (fun hc => ?_) | refine splNE (fun hc => ?_) (fun hc => ?_)) <;> first | (exfalso; omega) | (exfalso; dsimp only at hc; omega) | skip)
        | ((with_reducible show CallEv _ _ 16 _ _ _ _ _); refine callE (k := 16) (fun β w' hbw => awake_ok _) ?_)
        | ((with_reducible show CallEv _ _ 18 _ _ _ _ _); refine callF [] (fun y : Option Addr × Nat => sV G.length y) (fun y => Rd 2 gF (sV G.length y) G) (fun β w' _ hbw => h18 w' (by first | exact hbw | exact hbw.1 | exact hbw.1.1 | exact hbw.1.1.1 | exact hbw.1.1.1.1 | exact hbw.1.1.1.1.1 | exact hbw.1.1.1.1.1.1 | exact hbw.1.1.1.1.1.1.1)) ?_; intro y; obtain ⟨y1, y2⟩ := y; dsimp only)
        | ((with_reducible show CallEv _ _ 19 _ _ _ _ _); refine callF [] (fun y : Option Addr × Nat => sV L.length y) (fun y => Rd 4 En.cs (sV L.length y) L) (fun β w' _ hbw => h19 w' (by first | exact hbw | exact hbw.1 | exact hbw.1.1 | exact hbw.1.1.1 | exact hbw.1.1.1.1 | exact hbw.1.1.1.1.1 | exact hbw.1.1.1.1.1.1 | exact hbw.1.1.1.1.1.1.1)) ?_; intro y; obtain ⟨y1, y2⟩ := y; dsimp only)
        | ((with_reducible show CallEv _ _ 17 _ _ _ _ _); refine callF [] (fun y : Option Addr × Nat => .tuple #[sV A.length y, iv 0]) (fun y => Rd 1 iF (sV A.length y) A) (fun β w' _ hbw => h17 _ _ _ _ w' hbw.1.2 hbw.2) ?_; intro y; obtain ⟨v1, v2⟩ := y; dsimp only)
        | ((with_reducible show CallEv _ _ 20 _ _ _ _ _); refine callE (k := 20) (fun β w' hbw => h20 _ _ _ _ _ hbw.1.2 hbw.2) ?_)
        | ((with_reducible show CallEv _ _ 21 _ _ _ _ _); refine callE (k := 21) (fun β w' hbw => h21 _ (by first | exact hbw | exact hbw.1 | exact hbw.1.1 | exact hbw.1.1.1 | exact hbw.1.1.1.1 | exact hbw.1.1.1.1.1 | exact hbw.1.1.1.1.1.1 | exact hbw.1.1.1.1.1.1.1)) ?_)
        | ((with_reducible show CallEv _ _ 22 _ _ _ _ _); refine callE (k := 22) (fun β w' hbw => h22 _ _ _ _ _ hbw.1.2 hbw.2) ?_)
        | ((with_reducible show CallEv _ _ 23 _ _ _ _ _); refine callE (k := 23) (fun β w' hbw => In_ok _ _ _ _) ?_)
      all_goals first | (exfalso; omega) | skip
      refine loopN 2 (fun k : Nat => [(0, .v (.slice (some ado) G.length c)), (1, .v (.slice p L.length d)), (2, .v (iv day)), (3, .v (iv n)), (4, .v (iv hrs)), (11, .v (sV A.length (v1, v2))), (12, .v (iv 0)), (13, .v (iv U)), (14, .v (iv 0)), (16, oSV 0 1 (S k)), (17, .v (iv k))]) (fun k => oM 0 1 1 iF 3 (S k))
        (fun k => k ≤ G.length) (fun k => G.length - k) 0 (Nat.zero_le _) ⟨rfl, rfl, rfl, rfl, rfl, rfl, rfl, rfl, rfl, by rw [hS0]; rfl, rfl, trivial⟩ (by rw [hS0]; trivial) (fun k _ => by cases S k <;> exact ⟨rfl, rfl⟩) ?_
      intro k hk
      have hlen := hSl k
      rcases Nat.lt_or_ge k G.length with hkl | hkl
      · obtain ⟨g, hx⟩ : ∃ b, G[k]? = some b := ⟨_, List.getElem?_eq_getElem hkl⟩
        obtain ⟨_, ad, hado, _⟩ := hG.ptr (by omega)
        cases hado
        have e0 := fun (w' : World) hw' => rd_ati (hG.below (w' := w') hw') hx
        have hst := hSs k
        rw [show stI G L day k = stB g (stL k day L) day 0 from by rw [stI, hx]] at hst
        have h24 := fun (w' : World) (hb : Below w.heap.size w w') => Rstale_ok g L p d k day day 0 w' (hL.below hb) hE (by omega) (by omega)
        generalize stB g (stL k day L) day 0 = sb at *
        generalize S k = T at *
        generalize hsk : S (k + 1) = T' at *
        cases sb with
        | false =>
          rw [if_neg (by simp), List.append_nil] at hst
          subst hst
          repeat'
           conv => whnf
           first
            | refine zA ?_ | refine zB ?_ | refine zC ?_ | refine zD ?_ | refine zE ?_ | refine zF ?_ | refine zG ?_ | refine zH ?_ | refine zI ?_ | refine splT ?_ | refine splF ?_ | refine splNot ?_
            | ((first | refine splIn (fun hc => ?_) (fun hc => ?_) | refine splD (fun hc => ?_) (fun hc => ?_) | refine splE (fun hc => ?_) (fun hc => ?_) | refine splNE (fun hc => ?_) (fun hc => ?_)) <;> first | (exfalso; omega) | (exfalso; dsimp only at hc; omega) | skip)
            | refine Exists.intro (α := List Value) (gF g) ⟨⟨rfl, fun w' hw' => e0 w' (by first | exact hw' | exact hw'.1 | exact hw'.1.1 | exact hw'.1.1.1 | exact hw'.1.1.1.1 | exact hw'.1.1.1.1.1 | exact hw'.1.1.1.1.1.1 | exact hw'.1.1.1.1.1.1.1 | exact hw'.1.1.1.1.1.1.1.1)⟩, ?_⟩
            | ((with_reducible show CallEv _ _ 24 _ _ _ _ _); refine callE (k := 24) (fun β w' hbw => h24 _ (by first | exact hbw | exact hbw.1 | exact hbw.1.1 | exact hbw.1.1.1 | exact hbw.1.1.1.1 | exact hbw.1.1.1.1.1 | exact hbw.1.1.1.1.1.1 | exact hbw.1.1.1.1.1.1.1)) ?_)
          all_goals first | (exfalso; omega) | exact ⟨k + 1, by omega, by omega, Ent.weak rfl ⟨rfl, rfl, rfl, rfl, rfl, rfl, rfl, rfl, rfl, by rw [hsk]; rfl, rfl, trivial⟩ (by rw [hsk]; cases T' <;> first | trivial | exact ⟨rfl, trivial⟩) fun _ h => h⟩
        | true =>
          rw [if_pos rfl] at hst
          subst hst
          cases T with
          | nil =>
            repeat'
             conv => whnf
             first
              | refine zA ?_ | refine zB ?_ | refine zC ?_ | refine zD ?_ | refine zE ?_ | refine zF ?_ | refine zG ?_ | refine zH ?_ | refine zI ?_ | refine splT ?_ | refine splF ?_ | refine splNot ?_
              | ((first | refine splIn (fun hc => ?_) (fun hc => ?_) | refine splD (fun hc => ?_) (fun hc => ?_) | refine splE (fun hc => ?_) (fun hc => ?_) | refine splNE (fun hc => ?_) (fun hc => ?_)) <;> first | (exfalso; omega) | (exfalso; dsimp only at hc; omega) | skip)
              | refine Exists.intro (α := List Value) (gF g) ⟨⟨rfl, fun w' hw' => e0 w' (by first | exact hw' | exact hw'.1 | exact hw'.1.1 | exact hw'.1.1.1 | exact hw'.1.1.1.1 | exact hw'.1.1.1.1.1 | exact hw'.1.1.1.1.1.1 | exact hw'.1.1.1.1.1.1.1 | exact hw'.1.1.1.1.1.1.1.1)⟩, ?_⟩
              | ((with_reducible show CallEv _ _ 24 _ _ _ _ _); refine callE (k := 24) (fun β w' hbw => h24 _ (by first | exact hbw | exact hbw.1 | exact hbw.1.1 | exact hbw.1.1.1 | exact hbw.1.1.1.1 | exact hbw.1.1.1.1.1 | exact hbw.1.1.1.1.1.1 | exact hbw.1.1.1.1.1.1.1)) ?_)
            all_goals first | (exfalso; omega) | exact ⟨k + 1, by omega, by omega, Ent.ren (rho [(0, 3), (1, 4)]) rfl (by rw [hsk]; rfl) ⟨rfl, rfl, rfl, rfl, rfl, rfl, rfl, rfl, rfl, by rw [hsk]; rfl, rfl, trivial⟩ (by rw [hsk]; exact ⟨rfl, trivial⟩) fun _ h => h⟩
          | cons a T =>
            simp only [List.length_cons] at hlen
            repeat'
             conv => whnf
             first
              | refine zA ?_ | refine zB ?_ | refine zC ?_ | refine zD ?_ | refine zE ?_ | refine zF ?_ | refine zG ?_ | refine zH ?_ | refine zI ?_ | refine splT ?_ | refine splF ?_ | refine splNot ?_
              | ((first | refine splIn (fun hc => ?_) (fun hc => ?_) | refine splD (fun hc => ?_) (fun hc => ?_) | refine splE (fun hc => ?_) (fun hc => ?_) | refine splNE (fun hc => ?_) (fun hc => ?_)) <;> first | (exfalso; omega) | (exfalso; dsimp only at hc; omega) | skip)
              | refine Exists.intro (α := List Value) (gF g) ⟨⟨rfl, fun w' hw' => e0 w' (by first | exact hw' | exact hw'.1 | exact hw'.1.1 | exact hw'.1.1.1 | exact hw'.1.1.1.1 | exact hw'.1.1.1.1.1 | exact hw'.1.1.1.1.1.1 | exact hw'.1.1.1.1.1.1.1 | exact hw'.1.1.1.1.1.1.1.1)⟩, ?_⟩
              | ((with_reducible show CallEv _ _ 24 _ _ _ _ _); refine callE (k := 24) (fun β w' hbw => h24 _ (by first | exact hbw | exact hbw.1 | exact hbw.1.1 | exact hbw.1.1.1 | exact hbw.1.1.1.1 | exact hbw.1.1.1.1.1 | exact hbw.1.1.1.1.1.1 | exact hbw.1.1.1.1.1.1.1)) ?_)
            all_goals first | (exfalso; omega) | exact ⟨k + 1, by omega, by omega, Ent.ren (rho [(0, 3), (1, 4)]) rfl (by rw [hsk]; rfl) ⟨rfl, rfl, rfl, rfl, rfl, rfl, rfl, rfl, rfl, by rw [hsk]; simp [oSV]; rfl, rfl, trivial⟩ (by rw [hsk]; exact ⟨by simp [oM]; rfl, trivial⟩) fun _ h => h⟩
      · have hkn : k = G.length := by omega
        rw [hkn, hSn]
        have hAl : A.length ≤ 25 := by rw [← hSn, ← hkn]; omega
        cases A with
        | nil =>
          repeat'
           conv => whnf
           first
            | refine zA ?_ | refine zB ?_ | refine zC ?_ | refine zD ?_ | refine zE ?_ | refine zF ?_ | refine zG ?_ | refine zH ?_ | refine zI ?_ | refine splT ?_ | refine splF ?_ | refine splNot ?_
            | ((first | refine splIn (fun hc => ?_) (fun hc => ?_) | refine splD (fun hc => ?_) (fun hc => ?_) | refine splE (fun hc => ?_) (fun hc => ?_) | refine splNE (fun hc => ?_) (fun hc => ?_)) <;> first | (exfalso; omega) | (exfalso; dsimp only at hc; omega) | skip)
            | ((with_reducible show CallEv _ _ 25 _ _ _ _ _); refine callE (k := 25) (fun β w' hbw => ints_eq [] _ _ 0 _ _ w' rfl hbw.1.1.1.1.2 (.inl ⟨rfl, rfl⟩) (by decide)) ?_)
            | ((with_reducible show CallEv _ _ 23 _ _ _ _ _); refine callE (k := 23) (fun β w' hbw => In_ok _ _ _ _) ?_)
            | ((with_reducible show CallEv _ _ 16 _ _ _ _ _); refine callE (k := 16) (fun β w' hbw => awake_ok _) ?_)
            | ((with_reducible show CallEv _ _ 26 _ _ _ _ _); refine callE (k := 26) (fun β w' hbw => h26 _ (by first | exact hbw | exact hbw.1 | exact hbw.1.1 | exact hbw.1.1.1 | exact hbw.1.1.1.1 | exact hbw.1.1.1.1.1 | exact hbw.1.1.1.1.1.1 | exact hbw.1.1.1.1.1.1.1)) ?_)
            | refine Exists.intro (α := List Value) (gF g0) ⟨⟨rfl, fun w' hw' => e26 w' (by first | exact hw' | exact hw'.1 | exact hw'.1.1 | exact hw'.1.1.1 | exact hw'.1.1.1.1 | exact hw'.1.1.1.1.1 | exact hw'.1.1.1.1.1.1 | exact hw'.1.1.1.1.1.1.1 | exact hw'.1.1.1.1.1.1.1.1)⟩, ?_⟩
          all_goals first | (exfalso; omega) | exact ⟨fun β => rfl, fun w' h => (by first | exact h | exact h.1 | exact h.1.1 | exact h.1.1.1 | exact h.1.1.1.1 | exact h.1.1.1.1.1 | exact h.1.1.1.1.1.1 | exact h.1.1.1.1.1.1.1)⟩
        | cons a A =>
          simp only [List.length_cons] at hAl
          repeat'
           conv => whnf
           first
            | refine zA ?_ | refine zB ?_ | refine zC ?_ | refine zD ?_ | refine zE ?_ | refine zF ?_ | refine zG ?_ | refine zH ?_ | refine zI ?_ | refine splT ?_ | refine splF ?_ | refine splNot ?_
            | ((first | refine splIn (fun hc => ?_) (fun hc => ?_) | refine splD (fun hc => ?_) (fun hc => ?_) | refine splE (fun hc => ?_) (fun hc => ?_) | refine splNE (fun hc => ?_) (fun hc => ?_)) <;> first | (exfalso; omega) | (exfalso; dsimp only at hc; omega) | skip)
            | ((with_reducible show CallEv _ _ 25 _ _ _ _ _); refine callM (k := 25) [0] (fun β w' hbk hbw => ints_eq (a :: A) _ _ (A.length + 1) _ _ w' rfl hbw.1.1.1.1.2 (Rd.of_owns (sz := 1) (f := iF) (bs := a :: A) (fun _ => rfl) rfl rfl (hbk 0 (by simp) _ rfl)) (by simp; omega)) ?_)
            | ((with_reducible show CallEv _ _ 23 _ _ _ _ _); refine callE (k := 23) (fun β w' hbw => In_ok _ _ _ _) ?_)
            | ((with_reducible show CallEv _ _ 16 _ _ _ _ _); refine callE (k := 16) (fun β w' hbw => awake_ok _) ?_)
            | ((with_reducible show CallEv _ _ 26 _ _ _ _ _); refine callE (k := 26) (fun β w' hbw => h26 _ (by first | exact hbw | exact hbw.1 | exact hbw.1.1 | exact hbw.1.1.1 | exact hbw.1.1.1.1 | exact hbw.1.1.1.1.1 | exact hbw.1.1.1.1.1.1 | exact hbw.1.1.1.1.1.1.1)) ?_)
            | refine Exists.intro (α := List Value) (gF g0) ⟨⟨rfl, fun w' hw' => e26 w' (by first | exact hw' | exact hw'.1 | exact hw'.1.1 | exact hw'.1.1.1 | exact hw'.1.1.1.1 | exact hw'.1.1.1.1.1 | exact hw'.1.1.1.1.1.1 | exact hw'.1.1.1.1.1.1.1 | exact hw'.1.1.1.1.1.1.1.1)⟩, ?_⟩
          all_goals first | (exfalso; omega) | exact ⟨fun β => rfl, fun w' h => (by first | exact h | exact h.1 | exact h.1.1 | exact h.1.1.1 | exact h.1.1.1.1 | exact h.1.1.1.1.1 | exact h.1.1.1.1.1.1 | exact h.1.1.1.1.1.1.1)⟩
    · rw [show untR G L num day hrs = 0 from by unfold untR; split <;> first | rfl | exact if_neg fun h => hn h.2, show untE G L num day hrs = 2 from by rw [untE, if_pos he, if_neg hn]] at h20
      repeat'
       conv => whnf
       first
        | refine zA ?_ | refine zB ?_ | refine zC ?_ | refine zD ?_ | refine zE ?_ | refine zF ?_ | refine zG ?_ | refine zH ?_ | refine zI ?_ | refine splT ?_ | refine splF ?_ | refine splNot ?_
        | ((first | refine splIn (fun hc => ?_) (fun hc => ?_) | refine splD (fun hc => ?_) (fun hc => ?_) | refine splE (fun hc => ?_) (fun hc => ?_) | refine splNE (fun hc => ?_) (fun hc => ?_)) <;> first | (exfalso; omega) | (exfalso; dsimp only at hc; omega) | skip)
        | ((with_reducible show CallEv _ _ 16 _ _ _ _ _); refine callE (k := 16) (fun β w' hbw => awake_ok _) ?_)
        | ((with_reducible show CallEv _ _ 18 _ _ _ _ _); refine callF [] (fun y : Option Addr × Nat => sV G.length y) (fun y => Rd 2 gF (sV G.length y) G) (fun β w' _ hbw => h18 w' (by first | exact hbw | exact hbw.1 | exact hbw.1.1 | exact hbw.1.1.1 | exact hbw.1.1.1.1 | exact hbw.1.1.1.1.1 | exact hbw.1.1.1.1.1.1 | exact hbw.1.1.1.1.1.1.1)) ?_; intro y; obtain ⟨y1, y2⟩ := y; dsimp only)
        | ((with_reducible show CallEv _ _ 19 _ _ _ _ _); refine callF [] (fun y : Option Addr × Nat => sV L.length y) (fun y => Rd 4 En.cs (sV L.length y) L) (fun β w' _ hbw => h19 w' (by first | exact hbw | exact hbw.1 | exact hbw.1.1 | exact hbw.1.1.1 | exact hbw.1.1.1.1 | exact hbw.1.1.1.1.1 | exact hbw.1.1.1.1.1.1 | exact hbw.1.1.1.1.1.1.1)) ?_; intro y; obtain ⟨y1, y2⟩ := y; dsimp only)
        | ((with_reducible show CallEv _ _ 17 _ _ _ _ _); refine callF [] (fun y : Option Addr × Nat => .tuple #[sV A.length y, iv 0]) (fun y => Rd 1 iF (sV A.length y) A) (fun β w' _ hbw => h17 _ _ _ _ w' hbw.1.2 hbw.2) ?_; intro y; obtain ⟨v1, v2⟩ := y; dsimp only)
        | ((with_reducible show CallEv _ _ 20 _ _ _ _ _); refine callE (k := 20) (fun β w' hbw => h20 _ _ _ _ _ hbw.1.2 hbw.2) ?_)
        | ((with_reducible show CallEv _ _ 21 _ _ _ _ _); refine callE (k := 21) (fun β w' hbw => h21 _ (by first | exact hbw | exact hbw.1 | exact hbw.1.1 | exact hbw.1.1.1 | exact hbw.1.1.1.1 | exact hbw.1.1.1.1.1 | exact hbw.1.1.1.1.1.1 | exact hbw.1.1.1.1.1.1.1)) ?_)
        | ((with_reducible show CallEv _ _ 22 _ _ _ _ _); refine callE (k := 22) (fun β w' hbw => h22 _ _ _ _ _ hbw.1.2 hbw.2) ?_)
        | ((with_reducible show CallEv _ _ 23 _ _ _ _ _); refine callE (k := 23) (fun β w' hbw => In_ok _ _ _ _) ?_)
      all_goals first | (exfalso; omega) | skip
      refine loopN 2 (fun k : Nat => [(0, .v (.slice o G.length c)), (1, .v (.slice p L.length d)), (2, .v (iv day)), (3, .v (iv num)), (4, .v (iv hrs)), (11, .v (sV A.length (v1, v2))), (12, .v (iv 0)), (13, .v (iv 0)), (14, .v (iv 2)), (16, oSV 0 1 (S k)), (17, .v (iv k))]) (fun k => oM 0 1 1 iF 3 (S k))
        (fun k => k ≤ G.length) (fun k => G.length - k) 0 (Nat.zero_le _) ⟨rfl, rfl, rfl, rfl, rfl, rfl, rfl, rfl, rfl, by rw [hS0]; rfl, rfl, trivial⟩ (by rw [hS0]; trivial) (fun k _ => by cases S k <;> exact ⟨rfl, rfl⟩) ?_
      intro k hk
      have hlen := hSl k
      rcases Nat.lt_or_ge k G.length with hkl | hkl
      · obtain ⟨g, hx⟩ : ∃ b, G[k]? = some b := ⟨_, List.getElem?_eq_getElem hkl⟩
        obtain ⟨_, ad, hado, _⟩ := hG.ptr (by omega)
        subst hado
        have e0 := fun (w' : World) hw' => rd_ati (hG.below (w' := w') hw') hx
        have hst := hSs k
        rw [show stI G L day k = stB g (stL k day L) day 0 from by rw [stI, hx]] at hst
        have h24 := fun (w' : World) (hb : Below w.heap.size w w') => Rstale_ok g L p d k day day 0 w' (hL.below hb) hE (by omega) (by omega)
        generalize stB g (stL k day L) day 0 = sb at *
        generalize S k = T at *
        generalize hsk : S (k + 1) = T' at *
        cases sb with
        | false =>
          rw [if_neg (by simp), List.append_nil] at hst
          subst hst
          repeat'
           conv => whnf
           first
            | refine zA ?_ | refine zB ?_ | refine zC ?_ | refine zD ?_ | refine zE ?_ | refine zF ?_ | refine zG ?_ | refine zH ?_ | refine zI ?_ | refine splT ?_ | refine splF ?_ | refine splNot ?_
            | ((first | refine splIn (fun hc => ?_) (fun hc => ?_) | refine splD (fun hc => ?_) (fun hc => ?_) | refine splE (fun hc => ?_) (fun hc => ?_) | refine splNE (fun hc => ?_) (fun hc => ?_)) <;> first | (exfalso; omega) | (exfalso; dsimp only at hc; omega) | skip)
            | refine Exists.intro (α := List Value) (gF g) ⟨⟨rfl, fun w' hw' => e0 w' (by first | exact hw' | exact hw'.1 | exact hw'.1.1 | exact hw'.1.1.1 | exact hw'.1.1.1.1 | exact hw'.1.1.1.1.1 | exact hw'.1.1.1.1.1.1 | exact hw'.1.1.1.1.1.1.1 | exact hw'.1.1.1.1.1.1.1.1)⟩, ?_⟩
            | ((with_reducible show CallEv _ _ 24 _ _ _ _ _); refine callE (k := 24) (fun β w' hbw => h24 _ (by first | exact hbw | exact hbw.1 | exact hbw.1.1 | exact hbw.1.1.1 | exact hbw.1.1.1.1 | exact hbw.1.1.1.1.1 | exact hbw.1.1.1.1.1.1 | exact hbw.1.1.1.1.1.1.1)) ?_)
          all_goals first | (exfalso; omega) | exact ⟨k + 1, by omega, by omega, Ent.weak rfl ⟨rfl, rfl, rfl, rfl, rfl, rfl, rfl, rfl, rfl, by rw [hsk]; rfl, rfl, trivial⟩ (by rw [hsk]; cases T' <;> first | trivial | exact ⟨rfl, trivial⟩) fun _ h => h⟩
        | true =>
          rw [if_pos rfl] at hst
          subst hst
          cases T with
          | nil =>
            repeat'
             conv => whnf
             first
              | refine zA ?_ | refine zB ?_ | refine zC ?_ | refine zD ?_ | refine zE ?_ | refine zF ?_ | refine zG ?_ | refine zH ?_ | refine zI ?_ | refine splT ?_ | refine splF ?_ | refine splNot ?_
              | ((first | refine splIn (fun hc => ?_) (fun hc => ?_) | refine splD (fun hc => ?_) (fun hc => ?_) | refine splE (fun hc => ?_) (fun hc => ?_) | refine splNE (fun hc => ?_) (fun hc => ?_)) <;> first | (exfalso; omega) | (exfalso; dsimp only at hc; omega) | skip)
              | refine Exists.intro (α := List Value) (gF g) ⟨⟨rfl, fun w' hw' => e0 w' (by first | exact hw' | exact hw'.1 | exact hw'.1.1 | exact hw'.1.1.1 | exact hw'.1.1.1.1 | exact hw'.1.1.1.1.1 | exact hw'.1.1.1.1.1.1 | exact hw'.1.1.1.1.1.1.1 | exact hw'.1.1.1.1.1.1.1.1)⟩, ?_⟩
              | ((with_reducible show CallEv _ _ 24 _ _ _ _ _); refine callE (k := 24) (fun β w' hbw => h24 _ (by first | exact hbw | exact hbw.1 | exact hbw.1.1 | exact hbw.1.1.1 | exact hbw.1.1.1.1 | exact hbw.1.1.1.1.1 | exact hbw.1.1.1.1.1.1 | exact hbw.1.1.1.1.1.1.1)) ?_)
            all_goals first | (exfalso; omega) | exact ⟨k + 1, by omega, by omega, Ent.ren (rho [(0, 3), (1, 4)]) rfl (by rw [hsk]; rfl) ⟨rfl, rfl, rfl, rfl, rfl, rfl, rfl, rfl, rfl, by rw [hsk]; rfl, rfl, trivial⟩ (by rw [hsk]; exact ⟨rfl, trivial⟩) fun _ h => h⟩
          | cons a T =>
            simp only [List.length_cons] at hlen
            repeat'
             conv => whnf
             first
              | refine zA ?_ | refine zB ?_ | refine zC ?_ | refine zD ?_ | refine zE ?_ | refine zF ?_ | refine zG ?_ | refine zH ?_ | refine zI ?_ | refine splT ?_ | refine splF ?_ | refine splNot ?_
              | ((first | refine splIn (fun hc => ?_) (fun hc => ?_) | refine splD (fun hc => ?_) (fun hc => ?_) | refine splE (fun hc => ?_) (fun hc => ?_) | refine splNE (fun hc => ?_) (fun hc => ?_)) <;> first | (exfalso; omega) | (exfalso; dsimp only at hc; omega) | skip)
              | refine Exists.intro (α := List Value) (gF g) ⟨⟨rfl, fun w' hw' => e0 w' (by first | exact hw' | exact hw'.1 | exact hw'.1.1 | exact hw'.1.1.1 | exact hw'.1.1.1.1 | exact hw'.1.1.1.1.1 | exact hw'.1.1.1.1.1.1 | exact hw'.1.1.1.1.1.1.1 | exact hw'.1.1.1.1.1.1.1.1)⟩, ?_⟩
              | ((with_reducible show CallEv _ _ 24 _ _ _ _ _); refine callE (k := 24) (fun β w' hbw => h24 _ (by first | exact hbw | exact hbw.1 | exact hbw.1.1 | exact hbw.1.1.1 | exact hbw.1.1.1.1 | exact hbw.1.1.1.1.1 | exact hbw.1.1.1.1.1.1 | exact hbw.1.1.1.1.1.1.1)) ?_)
            all_goals first | (exfalso; omega) | exact ⟨k + 1, by omega, by omega, Ent.ren (rho [(0, 3), (1, 4)]) rfl (by rw [hsk]; rfl) ⟨rfl, rfl, rfl, rfl, rfl, rfl, rfl, rfl, rfl, by rw [hsk]; simp [oSV]; rfl, rfl, trivial⟩ (by rw [hsk]; exact ⟨by simp [oM]; rfl, trivial⟩) fun _ h => h⟩
      · have hkn : k = G.length := by omega
        rw [hkn, hSn]
        have hAl : A.length ≤ 25 := by rw [← hSn, ← hkn]; omega
        cases A with
        | nil =>
          repeat'
           conv => whnf
           first
            | refine zA ?_ | refine zB ?_ | refine zC ?_ | refine zD ?_ | refine zE ?_ | refine zF ?_ | refine zG ?_ | refine zH ?_ | refine zI ?_ | refine splT ?_ | refine splF ?_ | refine splNot ?_
            | ((first | refine splIn (fun hc => ?_) (fun hc => ?_) | refine splD (fun hc => ?_) (fun hc => ?_) | refine splE (fun hc => ?_) (fun hc => ?_) | refine splNE (fun hc => ?_) (fun hc => ?_)) <;> first | (exfalso; omega) | (exfalso; dsimp only at hc; omega) | skip)
            | ((with_reducible show CallEv _ _ 25 _ _ _ _ _); refine callE (k := 25) (fun β w' hbw => ints_eq [] _ _ 0 _ _ w' rfl hbw.1.1.1.1.2 (.inl ⟨rfl, rfl⟩) (by decide)) ?_)
            | ((with_reducible show CallEv _ _ 23 _ _ _ _ _); refine callE (k := 23) (fun β w' hbw => In_ok _ _ _ _) ?_)
            | ((with_reducible show CallEv _ _ 16 _ _ _ _ _); refine callE (k := 16) (fun β w' hbw => awake_ok _) ?_)
          all_goals first | (exfalso; omega) | exact ⟨fun β => rfl, fun w' h => (by first | exact h | exact h.1 | exact h.1.1 | exact h.1.1.1 | exact h.1.1.1.1 | exact h.1.1.1.1.1 | exact h.1.1.1.1.1.1 | exact h.1.1.1.1.1.1.1)⟩
        | cons a A =>
          simp only [List.length_cons] at hAl
          repeat'
           conv => whnf
           first
            | refine zA ?_ | refine zB ?_ | refine zC ?_ | refine zD ?_ | refine zE ?_ | refine zF ?_ | refine zG ?_ | refine zH ?_ | refine zI ?_ | refine splT ?_ | refine splF ?_ | refine splNot ?_
            | ((first | refine splIn (fun hc => ?_) (fun hc => ?_) | refine splD (fun hc => ?_) (fun hc => ?_) | refine splE (fun hc => ?_) (fun hc => ?_) | refine splNE (fun hc => ?_) (fun hc => ?_)) <;> first | (exfalso; omega) | (exfalso; dsimp only at hc; omega) | skip)
            | ((with_reducible show CallEv _ _ 25 _ _ _ _ _); refine callM (k := 25) [0] (fun β w' hbk hbw => ints_eq (a :: A) _ _ (A.length + 1) _ _ w' rfl hbw.1.1.1.1.2 (Rd.of_owns (sz := 1) (f := iF) (bs := a :: A) (fun _ => rfl) rfl rfl (hbk 0 (by simp) _ rfl)) (by simp; omega)) ?_)
            | ((with_reducible show CallEv _ _ 23 _ _ _ _ _); refine callE (k := 23) (fun β w' hbw => In_ok _ _ _ _) ?_)
            | ((with_reducible show CallEv _ _ 16 _ _ _ _ _); refine callE (k := 16) (fun β w' hbw => awake_ok _) ?_)
          all_goals first | (exfalso; omega) | exact ⟨fun β => rfl, fun w' h => (by first | exact h | exact h.1 | exact h.1.1 | exact h.1.1.1 | exact h.1.1.1.1 | exact h.1.1.1.1.1 | exact h.1.1.1.1.1.1 | exact h.1.1.1.1.1.1.1)⟩
  · rw [show staR G L day = [] from if_neg fun h => hd h.2, show staE G L day = 2 from by rw [staE, if_pos he, if_neg hd]] at h17
    rw [show untR G L num day hrs = 0 from by unfold untR; split <;> first | rfl | exact if_neg fun h => hd h.2.2.1, show untE G L num day hrs = 2 from by rw [untE, if_pos he, if_neg fun h => hd h.2.1]] at h20
    repeat'
     conv => whnf
     first
      | refine zA ?_ | refine zB ?_ | refine zC ?_ | refine zD ?_ | refine zE ?_ | refine zF ?_ | refine zG ?_ | refine zH ?_ | refine zI ?_ | refine splT ?_ | refine splF ?_ | refine splNot ?_
      | ((first | refine splIn (fun hc => ?_) (fun hc => ?_) | refine splD (fun hc => ?_) (fun hc => ?_) | refine splE (fun hc => ?_) (fun hc => ?_) | refine splNE (fun hc => ?_) (fun hc => ?_)) <;> first | (exfalso; omega) | (exfalso; dsimp only at hc; omega) | skip)
      | ((with_reducible show CallEv _ _ 16 _ _ _ _ _); refine callE (k := 16) (fun β w' hbw => awake_ok _) ?_)
      | ((with_reducible show CallEv _ _ 18 _ _ _ _ _); refine callF [] (fun y : Option Addr × Nat => sV G.length y) (fun y => Rd 2 gF (sV G.length y) G) (fun β w' _ hbw => h18 w' (by first | exact hbw | exact hbw.1 | exact hbw.1.1 | exact hbw.1.1.1 | exact hbw.1.1.1.1 | exact hbw.1.1.1.1.1 | exact hbw.1.1.1.1.1.1 | exact hbw.1.1.1.1.1.1.1)) ?_; intro y; obtain ⟨y1, y2⟩ := y; dsimp only)
      | ((with_reducible show CallEv _ _ 19 _ _ _ _ _); refine callF [] (fun y : Option Addr × Nat => sV L.length y) (fun y => Rd 4 En.cs (sV L.length y) L) (fun β w' _ hbw => h19 w' (by first | exact hbw | exact hbw.1 | exact hbw.1.1 | exact hbw.1.1.1 | exact hbw.1.1.1.1 | exact hbw.1.1.1.1.1 | exact hbw.1.1.1.1.1.1 | exact hbw.1.1.1.1.1.1.1)) ?_; intro y; obtain ⟨y1, y2⟩ := y; dsimp only)
      | ((with_reducible show CallEv _ _ 17 _ _ _ _ _); refine callF [] (fun y : Option Addr × Nat => .tuple #[sV 0 y, iv 2]) (fun y => Rd 1 iF (sV 0 y) []) (fun β w' _ hbw => h17 _ _ _ _ w' hbw.1.2 hbw.2) ?_; intro y; obtain ⟨v1, v2⟩ := y; dsimp only)
      | ((with_reducible show CallEv _ _ 20 _ _ _ _ _); refine callE (k := 20) (fun β w' hbw => h20 _ _ _ _ _ hbw.1.2 hbw.2) ?_)
      | ((with_reducible show CallEv _ _ 21 _ _ _ _ _); refine callE (k := 21) (fun β w' hbw => h21 _ (by first | exact hbw | exact hbw.1 | exact hbw.1.1 | exact hbw.1.1.1 | exact hbw.1.1.1.1 | exact hbw.1.1.1.1.1 | exact hbw.1.1.1.1.1.1 | exact hbw.1.1.1.1.1.1.1)) ?_)
      | ((with_reducible show CallEv _ _ 22 _ _ _ _ _); refine callE (k := 22) (fun β w' hbw => h22 _ _ _ _ _ hbw.1.2 hbw.2) ?_)
      | ((with_reducible show CallEv _ _ 23 _ _ _ _ _); refine callE (k := 23) (fun β w' hbw => In_ok _ _ _ _) ?_)
    all_goals first | (exfalso; omega) | exact ⟨fun β => rfl, fun w' h => (by first | exact h | exact h.1 | exact h.1.1 | exact h.1.1.1 | exact h.1.1.1.1 | exact h.1.1.1.1.1 | exact h.1.1.1.1.1.1 | exact h.1.1.1.1.1.1.1)⟩
end Go.Proofs.Ytaciigegbgnadaa
