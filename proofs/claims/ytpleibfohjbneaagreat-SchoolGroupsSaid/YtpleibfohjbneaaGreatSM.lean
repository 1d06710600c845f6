/- The hours of a group: what Join returns where nothing is wrong. -/
import Derived.Test.YtpleibfohjbneaaGreatSL
namespace Go.Proofs.YtpleibfohjbneaaGreat
open Go Tx Go.RowKit
set_option linter.unusedSimpArgs false
set_option linter.unusedVariables false

def kid (KK : List (List (Int × List Int))) (n : Int) : List (Int × List Int) := (KK[n.toNat]?).getD []
/-- The hours of a group in a subject. -/
def jnV (N : List Int) (wk : Int) (CC : List (List Int)) (KK : List (List (Int × List Int))) (xs : List Int) (j : Nat) : Int := xs.foldl (fun a n => imax a (nxV N wk CC (kid KK n) j)) 0
def jnR (N : List Int) (wk : Int) (CC : List (List Int)) (KK : List (List (Int × List Int))) (xs : List Int) : List Int := (List.range N.length).map (jnV N wk CC KK xs)
theorem jnR_len (N : List Int) (wk : Int) (CC : List (List Int)) (KK : List (List (Int × List Int))) (xs : List Int) : (jnR N wk CC KK xs).length = N.length := by simp [jnR]
theorem jnV_snoc {N : List Int} {wk : Int} {CC : List (List Int)} {KK : List (List (Int × List Int))} {xs : List Int} {n : Int} {j : Nat} : jnV N wk CC KK (xs ++ [n]) j = imax (jnV N wk CC KK xs j) (nxV N wk CC (kid KK n) j) := by
  rw [jnV, List.foldl_append]; rfl
theorem rep0 (n : Nat) : (List.range n).map (fun _ => (0 : Int)) = List.replicate n 0 := by rw [List.map_const']; simp
/-- A row half way between two. -/
def hfR (f g : Nat → Int) (n j : Nat) : List Int := (List.range n).map fun p => if p < j then g p else f p
theorem hfR_len (f g : Nat → Int) (n j : Nat) : (hfR f g n j).length = n := by simp [hfR]
theorem hfR_at (f g : Nat → Int) {n j : Nat} (h : j < n) : (hfR f g n j)[j]? = some (f j) := by simp [hfR, h]
theorem hfR_set (f g : Nat → Int) {n j : Nat} (h : j < n) : (hfR f g n j).set j (g j) = hfR f g n (j + 1) := by
  refine List.ext_getElem? fun i => ?_
  rw [List.getElem?_set]
  rcases Nat.lt_or_ge i n with hi | hi
  · simp only [hfR_len, hfR, List.getElem?_map, List.getElem?_range hi, Option.map_some]
    by_cases hq : j = i
    · subst hq; simp [h]
    · rw [if_neg hq]
      by_cases h2 : i < j
      · rw [if_pos h2, if_pos (by omega)]
      · rw [if_neg h2, if_neg (by omega)]
  · rw [if_neg (by omega), List.getElem?_eq_none (by rw [hfR_len]; exact hi), List.getElem?_eq_none (by rw [hfR_len]; exact hi)]
theorem hfR_zero (f g : Nat → Int) (n : Nat) : hfR f g n 0 = (List.range n).map f := by simp [hfR]
theorem hfR_full (f g : Nat → Int) (n : Nat) : hfR f g n n = (List.range n).map g := by
  refine List.map_congr_left fun p hp => ?_
  rw [if_pos (List.mem_range.1 hp)]
theorem fsE_at {n m : Nat} {wk : Int} : ∀ {KK : List (List (Int × List Int))}, fsE n m wk KK = 0 → ∀ (k : Nat) s, KK[k]? = some s → stE n m wk s = 0
  | [], _, k, s, h => by simp at h
  | x :: r, hf, k, s, h => by
    rw [fsE] at hf
    by_cases hz : stE n m wk x = 0
    · rw [if_pos hz] at hf
      cases k with
      | zero =>
        simp only [List.getElem?_cons_zero, Option.some.injEq] at h
        subst h; exact hz
      | succ k => exact fsE_at hf k s (by simpa using h)
    · rw [if_neg hz] at hf
      exact absurd hf hz
/-- What is known where nothing is wrong. -/
structure JnOk (N : List Int) (wk : Int) (CC : List (List Int)) (KK : List (List (Int × List Int))) (xs : List Int) : Prop where
  l : KK.length ≤ 40
  c : crOk N wk CC = true
  y : ∀ (k : Nat) s, KK[k]? = some s → YrOk N wk CC s ∧ (s.length : Int) < wk
  g : gOk KK.length xs = true
theorem JnOk.of {N : List Int} {wk : Int} {CC : List (List Int)} {KK : List (List (Int × List Int))} {xs : List Int} (hc : crOk N wk CC = true) (h : jfE N.length CC.length wk KK xs = 0) : JnOk N wk CC KK xs := by
  unfold jfE at h
  split at h
  · cases h
  rename_i h1
  split at h
  case isFalse h2 => exact absurd h h2
  rename_i h2
  split at h
  · cases h
  rename_i h3
  split at h
  case isFalse => cases h
  rename_i h4
  refine ⟨by omega, hc, fun k s hk => ?_, h4⟩
  have hy : YrOk N wk CC s := YrOk.of (by unfold ckE; rw [hc, if_pos rfl]; exact fsE_at h2 k s hk)
  refine ⟨hy, ?_⟩
  have h5 : (KK.any fun s => decide ((s.length : Int) = wk)) = false := by simpa using h3
  rw [List.any_eq_false] at h5
  have := h5 s (List.mem_of_getElem? hk)
  simp only [decide_eq_true_eq] at this
  have := hy.sl
  omega
theorem gOk_at {m : Nat} {xs : List Int} (h : gOk m xs = true) {j : Nat} {x : Int} (hx : xs[j]? = some x) : 0 ≤ x ∧ x < m := by
  simp only [gOk, Bool.and_eq_true, List.all_eq_true, inB, decide_eq_true_eq] at h
  have := h.1 x (List.mem_of_getElem? hx)
  omega
theorem gOk_init {m : Nat} {xs : List Int} {n : Int} (h : gOk m (xs ++ [n]) = true) : gOk m xs = true := by
  simp only [gOk, Bool.and_eq_true, List.all_append, decide_eq_true_eq, List.nodup_append] at h ⊢
  exact ⟨h.1.1, h.2.1⟩

set_option maxHeartbeats 4000000 in
set_option maxRecDepth 100000 in
theorem Join_ok (x : Cr) (o : Option Addr) (c : Nat) (K : List Kd) (go : Option Addr) (gc : Nat) (g : Rw) (w : World) (h : CrIn x w) (hK : KdIn o c K w) (hG : Rd 1 Rw.cs (.slice go 1 gc) [g] w) (hg : Rd 1 iF g.v g.xs w) (hgl : g.xs.length ≤ 1000000)
    (hc : crOk x.N x.wk x.CC = true) (hj : jfE x.N.length x.CC.length x.wk (K.map Kd.d) g.xs = 0) :
    Calls Tryz.prog 48 #[x.v, .slice o K.length c, .slice go 1 gc] w fun e w' => ∃ y : (Option Addr × Nat) × (Option Addr × Nat), e = .returned (.tuple #[.slice y.1.1 1 y.1.2, iv 0]) ∧ Below w.heap.size w w' ∧
      St w.heap.size (fun w2 => Rd 1 Rw.cs (.slice y.1.1 1 y.1.2) [(⟨y.2.1, y.2.2, jnR x.N x.wk x.CC (K.map Kd.d) g.xs⟩ : Rw)] w2 ∧ Rd 1 iF (.slice y.2.1 (jnR x.N x.wk x.CC (K.map Kd.d) g.xs).length y.2.2) (jnR x.N x.wk x.CC (K.map Kd.d) g.xs) w2) w' := by
  have hv := fun w' hb => valid_ok x w' (h.below hb)
  have hjn := fun w' hb => joined_ok x o c K go gc g w' (h.below hb) (hK.below hb) (hG.below hb) (hg.below hb) hgl
  have hok := JnOk.of hc hj
  have h81 := fun (k : Nat) (kd : Kd) (hk : K[k]? = some kd) (j : Nat) (hjl : j < x.N.length) w' hb => nextC_ok x kd.o kd.c kd.S j w' (h.below hb) ((hK.s kd (List.mem_of_getElem? hk)).below hb) (hok.y k _ (by rw [List.getElem?_map, hk]; rfl)).1 hjl (by have := (hok.y k _ (by rw [List.getElem?_map, hk]; rfl)).2; rwa [List.length_map] at this)
  rw [hc] at hv
  rw [hj] at hjn
  obtain ⟨no, nc, N, wk, co, cc, C⟩ := x
  obtain ⟨hK1, hK2, hkl⟩ := hK
  obtain ⟨gro, grc, xs⟩ := g
  dsimp only at hv hjn h81 hok hgl ⊢
  change Rd 1 iF (.slice gro xs.length grc) xs w at hg
  change JnOk N wk (C.map Rw.xs) (K.map Kd.d) xs at hok
  have h81b := fun (k : Nat) (ko : Option Addr) (kc : Nat) (S : List Sy) (hk : K[k]? = some ⟨ko, kc, S⟩) => h81 k ⟨ko, kc, S⟩ hk
  dsimp only at h81b
  clear h81
  refine calls_fam env mixed Tryz.func48 has48 Tryz.ntmps48 [.agg #[.slice no N.length nc, iv wk, .slice co C.length cc], .slice o K.length c, .slice go 1 gc] (by simp) ?_
  obtain ⟨_, adg, rfl, _⟩ := hG.ptr (Nat.le_refl _)
  have eg := fun (w' : World) hw' => rd_ati (hG.below (w' := w') hw') (k := 0) (b := (⟨gro, grc, xs⟩ : Rw)) rfl
  have hn6 := (hok.y)
  have hN6 : 1 ≤ N.length ∧ N.length ≤ 6 := by
    have := hok.c
    simp only [crOk, inB, Bool.and_eq_true, decide_eq_true_eq] at this
    omega
  have hlR := jnR_len N wk (C.map Rw.xs) (K.map Kd.d) xs
  show vc _ _ _ (endΦ _ _ fun s σ => (∀ w', σ.h w' → _) ∧ ∀ β w', σ.h w' → _ → ∃ y : (Option Addr × Nat) × (Option Addr × Nat), s.c β = .tuple #[.slice y.1.1 1 y.1.2, iv 0] ∧ St w.heap.size (fun w2 => Rd 1 Rw.cs (.slice y.1.1 1 y.1.2) [(⟨y.2.1, y.2.2, jnR N wk (C.map Rw.xs) (K.map Kd.d) xs⟩ : Rw)] w2 ∧ Rd 1 iF (.slice y.2.1 (jnR N wk (C.map Rw.xs) (K.map Kd.d) xs).length y.2.2) (jnR N wk (C.map Rw.xs) (K.map Kd.d) xs) w2) w')
  repeat'
   conv => whnf
   first
    | refine zA ?_ | refine zB ?_ | refine zC ?_ | refine zD ?_ | refine zE ?_ | refine zF ?_ | refine zG ?_ | refine zH ?_ | refine zJ ?_ | refine zI ?_ | refine splT ?_ | refine splF ?_ | refine splNot ?_
    | ((first | refine splIn (fun hc => ?_) (fun hc => ?_) | refine splD (fun hc => ?_) (fun hc => ?_) | refine splE (fun hc => ?_) (fun hc => ?_) | refine splNE (fun hc => ?_) (fun hc => ?_)) <;> first | (exfalso; omega) | (exfalso; dsimp only at hc; omega) | skip)
    | ((with_reducible show CallEv _ _ 82 _ _ _ _ _); refine callE (k := 82) (fun β w' hbw => hv _ hbw) ?_)
    | ((with_reducible show CallEv _ _ 90 _ _ _ _ _); refine callE (k := 90) (fun β w' hbw => hjn _ hbw) ?_)
  all_goals first | (exfalso; omega) | skip
  refine loopN 5 (fun k : Nat => (1, .v (.slice o K.length c)) :: (3, .ptr 0 0) :: (27, .v (.slice (some adg) 1 gc)) :: (28, .v (iv (1 : Nat))) :: (29, .v (iv k)) :: [(9, match k with | 0 => .v (.slice none 0 0) | _ + 1 => .os 1 2 1)]) (fun k => (0, .cells [.v (.slice no N.length nc), .v (iv wk), .v (.slice co C.length cc)] 63) :: (match k with | 0 => [] | _ + 1 => [(1, .mix 2 1 1 [] [.os 3 4 N.length] 36), (3, .own 4 N.length 1 ((jnR N wk (C.map Rw.xs) (K.map Kd.d) xs).flatMap iF) 3)]))
    (fun k => k ≤ 1) (fun k => 1 - k) 0 (Nat.zero_le _) ⟨rfl, rfl, rfl, rfl, rfl, rfl, trivial⟩ ⟨rfl, trivial⟩ (fun k hk => by rcases (by omega : k = 0 ∨ k = 1) with rfl | rfl <;> exact ⟨rfl, rfl⟩) ?_
  intro k hk
  obtain rfl | rfl : k = 0 ∨ k = 1 := by omega
  · have hmk : (0 : Nat) = 0 := rfl
    repeat'
     conv => whnf
     first
      | refine zA ?_ | refine zB ?_ | refine zC ?_ | refine zD ?_ | refine zE ?_ | refine zF ?_ | refine zG ?_ | refine zH ?_ | refine zJ ?_ | refine zI ?_ | refine splT ?_ | refine splF ?_ | refine splNot ?_
      | ((first | refine splIn (fun hc => ?_) (fun hc => ?_) | refine splD (fun hc => ?_) (fun hc => ?_) | refine splE (fun hc => ?_) (fun hc => ?_) | refine splNE (fun hc => ?_) (fun hc => ?_)) <;> first | (exfalso; omega) | (exfalso; dsimp only at hc; omega) | skip)
      | refine Exists.intro (α := List Value) [.slice gro xs.length grc] ⟨⟨rfl, fun w' hw' => eg w' hw'⟩, ?_⟩
      | refine mkO env 5 N.length ((List.replicate N.length (0 : Int)).flatMap iF) rfl rfl rfl (by decide) rfl (by omega) (by decide) (by rw [List.flatMap_replicate]; rfl) rfl ?_
    all_goals first | (exfalso; omega) | skip
    refine loopN 7 (fun i : Nat => [(1, .v (.slice o K.length c)), (3, .ptr 0 0), (9, .v (.slice none 0 0)), (12, .os 5 6 N.length), (27, .v (.slice (some adg) 1 gc)), (28, .v (iv (1 : Nat))), (29, .v (iv (0 : Nat))), (37, .v (.slice gro xs.length grc)), (38, .v (iv xs.length)), (39, .v (iv i))])
      (fun i => [(0, .cells [.v (.slice no N.length nc), .v (iv wk), .v (.slice co C.length cc)] 63), (5, .own 6 N.length 1 ((jnR N wk (C.map Rw.xs) (K.map Kd.d) (xs.take i)).flatMap iF) 3)])
      (fun i => i ≤ xs.length) (fun i => xs.length - i) 0 (Nat.zero_le _) ⟨rfl, rfl, rfl, rfl, rfl, rfl, rfl, rfl, rfl, rfl, trivial⟩ ⟨rfl, by rw [show jnR N wk (C.map Rw.xs) (K.map Kd.d) (xs.take 0) = List.replicate N.length 0 from rep0 N.length]; rfl, trivial⟩ (fun _ _ => ⟨rfl, rfl⟩) ?_
    intro i hi
    rcases Nat.lt_or_ge i xs.length with hil | hil
    · obtain ⟨n, hn⟩ : ∃ b, xs[i]? = some b := ⟨_, List.getElem?_eq_getElem hil⟩
      have hnr := gOk_at hok.g hn
      obtain ⟨q, rfl⟩ := Int.eq_ofNat_of_zero_le hnr.1
      have hkm : (K.map Kd.d).length = K.length := List.length_map ..
      have hq : q < K.length := by omega
      obtain ⟨_, adr, rfl, _⟩ := hg.ptr (by omega)
      have en := fun (w' : World) hw' => rd_ati (hg.below (w' := w') hw') hn
      obtain ⟨⟨ko, kc, S⟩, hx⟩ : ∃ b, K[q]? = some b := ⟨_, List.getElem?_eq_getElem hq⟩
      obtain ⟨_, adk, rfl, _⟩ := hK1.ptr (by omega)
      have ek := fun (w' : World) hw' => rd_ati (hK1.below (w' := w') hw') hx
      have hkid : kid (K.map Kd.d) (q : Int) = S.map Sy.d := by unfold kid; rw [Int.toNat_natCast, List.getElem?_map, hx]; rfl
      have htk : xs.take (i + 1) = xs.take i ++ [(q : Int)] := by rw [List.take_add_one, hn]; rfl
      have hSl := (hK2 _ (List.mem_of_getElem? hx)).sl
      dsimp only at hSl
      repeat'
       conv => whnf
       first
        | refine zA ?_ | refine zB ?_ | refine zC ?_ | refine zD ?_ | refine zE ?_ | refine zF ?_ | refine zG ?_ | refine zH ?_ | refine zJ ?_ | refine zI ?_ | refine splT ?_ | refine splF ?_ | refine splNot ?_
        | ((first | refine splIn (fun hc => ?_) (fun hc => ?_) | refine splD (fun hc => ?_) (fun hc => ?_) | refine splE (fun hc => ?_) (fun hc => ?_) | refine splNE (fun hc => ?_) (fun hc => ?_)) <;> first | (exfalso; omega) | (exfalso; dsimp only at hc; omega) | skip)
        | refine Exists.intro (α := List Value) [iv q] ⟨⟨rfl, fun w' hw' => en w' hw'⟩, ?_⟩
        | refine Exists.intro (α := List Value) [.slice ko S.length kc] ⟨⟨rfl, fun w' hw' => ek w' hw'⟩, ?_⟩
      all_goals first | (exfalso; omega) | skip
      repeat'
       conv => whnf
       first
        | refine zA ?_ | refine zB ?_ | refine zC ?_ | refine zD ?_ | refine zE ?_ | refine zF ?_ | refine zG ?_ | refine zH ?_ | refine zJ ?_ | refine zI ?_ | refine splT ?_ | refine splF ?_ | refine splNot ?_
        | ((first | refine splIn (fun hc => ?_) (fun hc => ?_) | refine splD (fun hc => ?_) (fun hc => ?_) | refine splE (fun hc => ?_) (fun hc => ?_) | refine splNE (fun hc => ?_) (fun hc => ?_)) <;> first | (exfalso; omega) | (exfalso; dsimp only at hc; omega) | skip)
      all_goals first | (exfalso; omega) | skip
      refine loopN 8 (fun j : Nat => [(1, .v (.slice (some adk) K.length c)), (3, .ptr 0 0), (9, .v (.slice none 0 0)), (12, .os 5 6 N.length), (15, .ptr 7 0), (27, .v (.slice (some adg) 1 gc)), (28, .v (iv (1 : Nat))), (29, .v (iv (0 : Nat))), (37, .v (.slice (some adr) xs.length grc)), (38, .v (iv xs.length)), (39, .v (iv i)), (50, .v (iv N.length)), (51, .v (iv j))])
        (fun j => [(0, .cells [.v (.slice no N.length nc), .v (iv wk), .v (.slice co C.length cc)] 63), (5, .own 6 N.length 1 ((hfR (jnV N wk (C.map Rw.xs) (K.map Kd.d) (xs.take i)) (jnV N wk (C.map Rw.xs) (K.map Kd.d) (xs.take (i + 1))) N.length j).flatMap iF) 3), (7, .cells [.v (.slice no N.length nc), .v (iv wk), .v (.slice co C.length cc), .v (.slice ko S.length kc)] 129)])
        (fun j => j ≤ N.length) (fun j => N.length - j) 0 (Nat.zero_le _) ⟨rfl, rfl, rfl, rfl, rfl, rfl, rfl, rfl, rfl, rfl, rfl, rfl, rfl, trivial⟩ ⟨rfl, by rw [hfR_zero]; rfl, rfl, trivial⟩ (fun _ _ => ⟨rfl, rfl⟩) ?_
      intro j hj2
      rcases Nat.lt_or_ge j N.length with hjl | hjl
      · have hat := hfR_at (jnV N wk (C.map Rw.xs) (K.map Kd.d) (xs.take i)) (jnV N wk (C.map Rw.xs) (K.map Kd.d) (xs.take (i + 1))) hjl
        have hset := hfR_set (jnV N wk (C.map Rw.xs) (K.map Kd.d) (xs.take i)) (jnV N wk (C.map Rw.xs) (K.map Kd.d) (xs.take (i + 1))) hjl
        have hln : j < (hfR (jnV N wk (C.map Rw.xs) (K.map Kd.d) (xs.take i)) (jnV N wk (C.map Rw.xs) (K.map Kd.d) (xs.take (i + 1))) N.length j).length := by rw [hfR_len]; exact hjl
        have hval : jnV N wk (C.map Rw.xs) (K.map Kd.d) (xs.take (i + 1)) j = imax (jnV N wk (C.map Rw.xs) (K.map Kd.d) (xs.take i) j) (nxV N wk (C.map Rw.xs) (S.map Sy.d) j) := by rw [htk, jnV_snoc, hkid]
        rw [hval] at hset
        have hcl := h81b q ko kc S hx j hjl
        generalize hfR (jnV N wk (C.map Rw.xs) (K.map Kd.d) (xs.take i)) (jnV N wk (C.map Rw.xs) (K.map Kd.d) (xs.take (i + 1))) N.length j = R0 at *
        generalize jnV N wk (C.map Rw.xs) (K.map Kd.d) (xs.take i) j = A at *
        generalize nxV N wk (C.map Rw.xs) (S.map Sy.d) j = B at *
        repeat'
         conv => whnf
         first
          | refine zA ?_ | refine zB ?_ | refine zC ?_ | refine zD ?_ | refine zE ?_ | refine zF ?_ | refine zG ?_ | refine zH ?_ | refine zJ ?_ | refine zI ?_ | refine splT ?_ | refine splF ?_ | refine splNot ?_
          | ((first | refine splIn (fun hc => ?_) (fun hc => ?_) | refine splD (fun hc => ?_) (fun hc => ?_) | refine splE (fun hc => ?_) (fun hc => ?_) | refine splNE (fun hc => ?_) (fun hc => ?_)) <;> first | (exfalso; omega) | (exfalso; dsimp only at hc; omega) | skip)
          | refine Exists.intro (α := List Value) [iv A] ⟨⟨rfl, atS' hat⟩, ?_⟩
          | ((with_reducible show CallEv _ _ 81 _ _ _ _ _); refine callE (k := 81) (fun β w' hbw => hcl _ hbw) ?_)
          | (refine And.intro (a := _ + _ ≤ List.length _) (stS' hln _) ?_; rw [stE' hln])
        all_goals first | (exfalso; omega) | exact ⟨j + 1, by omega, by omega, Ent.weak rfl ⟨rfl, rfl, rfl, rfl, rfl, rfl, rfl, rfl, rfl, rfl, rfl, rfl, rfl, trivial⟩ ⟨rfl, by rw [← hset]; rfl, rfl, trivial⟩ fun _ h => h⟩
      · have hjj : j = N.length := by omega
        subst hjj
        rw [hfR_full]
        repeat'
         conv => whnf
         first
          | refine zA ?_ | refine zB ?_ | refine zC ?_ | refine zD ?_ | refine zE ?_ | refine zF ?_ | refine zG ?_ | refine zH ?_ | refine zJ ?_ | refine zI ?_ | refine splT ?_ | refine splF ?_ | refine splNot ?_
          | ((first | refine splIn (fun hc => ?_) (fun hc => ?_) | refine splD (fun hc => ?_) (fun hc => ?_) | refine splE (fun hc => ?_) (fun hc => ?_) | refine splNE (fun hc => ?_) (fun hc => ?_)) <;> first | (exfalso; omega) | (exfalso; dsimp only at hc; omega) | skip)
        all_goals first | (exfalso; omega) | exact ⟨i + 1, by omega, by omega, Ent.weak rfl ⟨rfl, rfl, rfl, rfl, rfl, rfl, rfl, rfl, rfl, rfl, trivial⟩ ⟨rfl, rfl, trivial⟩ fun _ h => h⟩
    · have hii : i = xs.length := by omega
      rw [List.take_of_length_le hil]
      repeat'
       conv => whnf
       first
        | refine zA ?_ | refine zB ?_ | refine zC ?_ | refine zD ?_ | refine zE ?_ | refine zF ?_ | refine zG ?_ | refine zH ?_ | refine zJ ?_ | refine zI ?_ | refine splT ?_ | refine splF ?_ | refine splNot ?_
        | ((first | refine splIn (fun hc => ?_) (fun hc => ?_) | refine splD (fun hc => ?_) (fun hc => ?_) | refine splE (fun hc => ?_) (fun hc => ?_) | refine splNE (fun hc => ?_) (fun hc => ?_)) <;> first | (exfalso; omega) | (exfalso; dsimp only at hc; omega) | skip)
        | refine appG env 7 1 1 [.os 5 6 N.length] 36 0 [] [] rfl rfl rfl rfl rfl (by decide) rfl rfl rfl (fun _ => Nat.le_refl _) (by omega) (by decide) rfl (.inl ⟨rfl, rfl, rfl, rfl⟩) rfl ?_
      all_goals first | (exfalso; omega) | exact ⟨1, Nat.le_refl _, by omega, Ent.ren (rho [(1, 8), (2, 9), (3, 5), (4, 6)]) rfl rfl ⟨rfl, rfl, rfl, rfl, rfl, rfl, trivial⟩ ⟨rfl, rfl, rfl, trivial⟩ fun _ h => h⟩
  · have hmk : (0 : Nat) = 0 := rfl
    repeat'
     conv => whnf
     first
      | refine zA ?_ | refine zB ?_ | refine zC ?_ | refine zD ?_ | refine zE ?_ | refine zF ?_ | refine zG ?_ | refine zH ?_ | refine zJ ?_ | refine zI ?_ | refine splT ?_ | refine splF ?_ | refine splNot ?_
      | ((first | refine splIn (fun hc => ?_) (fun hc => ?_) | refine splD (fun hc => ?_) (fun hc => ?_) | refine splE (fun hc => ?_) (fun hc => ?_) | refine splNE (fun hc => ?_) (fun hc => ?_)) <;> first | (exfalso; omega) | (exfalso; dsimp only at hc; omega) | skip)
    all_goals first
      | (exfalso; omega)
      | (refine ⟨fun w' h => h, fun β w' hB hblk => ⟨((some ⟨β 1, 0, none⟩, β 2), (some ⟨β 3, 0, none⟩, β 4)), rfl, ?_⟩⟩
         refine St.and ((hblk 1 _ rfl rfl).imp fun w2 q => Rd.of_owns (sz := 1) (f := Rw.cs) (base := 0) (ty := 36) (xs := [.slice (some ⟨β 3, 0, none⟩) N.length (β 4)]) (fun _ => rfl) (by rw [← hlR]; rfl) rfl q) ?_
         exact own_rd rfl (by rw [hlR]; exact hblk 3 _ rfl rfl))
end Go.Proofs.YtpleibfohjbneaaGreat
