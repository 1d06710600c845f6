/- The error of children and a group: what JoinFault and joined return. -/
import Derived.Test.YtpleibfohjbneaaGreatSK
namespace Go.Proofs.YtpleibfohjbneaaGreat
open Go Tx Go.RowKit
set_option linter.unusedSimpArgs false
set_option linter.unusedVariables false

/-- The first error of the stays of children. -/
def fsE (n m : Nat) (wk : Int) : List (List (Int × List Int)) → Int
  | [] => 0
  | s :: r => if stE n m wk s = 0 then fsE n m wk r else stE n m wk s
theorem fsE_drop {n m : Nat} {wk : Int} {KK : List (List (Int × List Int))} {k : Nat} {s : List (Int × List Int)} (h : KK[k]? = some s) : fsE n m wk (KK.drop k) = if stE n m wk s = 0 then fsE n m wk (KK.drop (k + 1)) else stE n m wk s := by
  obtain ⟨h1, h2⟩ := List.getElem?_eq_some_iff.1 h
  rw [List.drop_eq_getElem_cons h1, h2, fsE]
theorem fsE_le {n m : Nat} {wk : Int} : ∀ {KK : List (List (Int × List Int))}, fsE n m wk KK = 0 → ∀ (k : Nat) s, KK[k]? = some s → (s.length : Int) ≤ wk
  | [], _, k, s, h => by simp at h
  | x :: r, hf, k, s, h => by
    rw [fsE] at hf
    by_cases hz : stE n m wk x = 0
    · rw [if_pos hz] at hf
      cases k with
      | zero =>
        simp only [List.getElem?_cons_zero, Option.some.injEq] at h
        subst h
        unfold stE at hz
        split at hz
        · cases hz
        · omega
      | succ k => exact fsE_le hf k s (by simpa using h)
    · rw [if_neg hz] at hf
      exact absurd hf hz
/-- Is a list of children's numbers a group? -/
def gOk (m : Nat) (xs : List Int) : Bool := (xs.all fun n => inB n 0 (m - 1)) && decide xs.Nodup
def jfE (n m : Nat) (wk : Int) (KK : List (List (Int × List Int))) (xs : List Int) : Int :=
  if 40 < KK.length then 3 else if fsE n m wk KK = 0 then (if KK.any (fun s => decide ((s.length : Int) = wk)) = true then 7 else if gOk KK.length xs = true then 0 else 2) else fsE n m wk KK
theorem any_take {α : Type} {p : α → Bool} {L : List α} {k : Nat} {x : α} (h : L[k]? = some x) : (L.take (k + 1)).any p = ((L.take k).any p || p x) := by
  rw [List.take_add_one, h]; simp
theorem any_yes {α : Type} {p : α → Bool} {L : List α} {k : Nat} {x : α} (h : L[k]? = some x) (hx : p x = true) : L.any p = true := by
  rw [List.any_eq_true]; exact ⟨x, List.mem_of_getElem? h, hx⟩
theorem gOk_range {m : Nat} {xs : List Int} {k : Nat} {x : Int} (h : xs[k]? = some x) (hx : inB x 0 (m - 1) = false) : gOk m xs = false := by
  rw [gOk, all_no h hx, Bool.false_and]
theorem nodup_take {xs : List Int} {k : Nat} {x : Int} (h : xs[k]? = some x) : (xs.take (k + 1)).Nodup ↔ (xs.take k).Nodup ∧ x ∉ xs.take k := by
  rw [List.take_add_one, h, Option.toList_some, List.nodup_append]
  constructor
  · rintro ⟨h1, _, h3⟩
    exact ⟨h1, fun hm => h3 x hm x (by simp) rfl⟩
  · rintro ⟨h1, h2⟩
    refine ⟨h1, by simp, fun a ha b hb e => ?_⟩
    simp only [List.mem_singleton] at hb
    subst hb; subst e
    exact h2 ha
theorem gOk_twice {m : Nat} {xs : List Int} {k : Nat} {x : Int} (h : xs[k]? = some x) (hx : x ∈ xs.take k) : gOk m xs = false := by
  rw [gOk, Bool.and_eq_false_iff]
  right
  rw [decide_eq_false_iff_not]
  intro hn
  exact ((nodup_take h).1 (hn.sublist (List.take_sublist _ _))).2 hx
/-- Which numbers have come. -/
def usL {α : Type} (y n : α) (m : Nat) (done : List Int) : List α := (List.range m).map fun (i : Nat) => if (i : Int) ∈ done then y else n
theorem usL_len {α : Type} (y n : α) (m : Nat) (done : List Int) : (usL y n m done).length = m := by simp [usL]
theorem usL_at {α : Type} (y n : α) {m q : Nat} (done : List Int) (h : q < m) : (usL y n m done)[q]? = some (if (q : Int) ∈ done then y else n) := by
  simp [usL, h]
theorem usL_set {α : Type} (y n : α) {m q : Nat} (done : List Int) (h : q < m) : (usL y n m done).set q y = usL y n m (done ++ [(q : Int)]) := by
  refine List.ext_getElem? fun i => ?_
  rw [List.getElem?_set]
  rcases Nat.lt_or_ge i m with hi | hi
  · rw [usL_at y n _ hi, usL_at y n _ hi, usL_len]
    by_cases hq : q = i
    · subst hq; simp [hi]
    · rw [if_neg hq]
      have hne : ¬ (i : Int) = (q : Int) := fun e => hq (by omega)
      simp [List.mem_append, hne]
  · rw [List.getElem?_eq_none (by rw [usL_len]; exact hi), List.getElem?_eq_none (by rw [usL_len]; exact hi)]
    split
    · split
      · rename_i h1 h2; rw [usL_len] at h2; omega
      · rfl
    · rfl
theorem usL_nil {α : Type} (y n : α) (m : Nat) : usL y n m [] = List.replicate m n := by
  unfold usL
  rw [show (fun (i : Nat) => if (i : Int) ∈ ([] : List Int) then y else n) = fun _ => n from funext fun i => if_neg (by simp)]
  exact List.ext_getElem? fun i => by simp [List.getElem?_replicate, List.getElem?_range]; split <;> simp_all
theorem atS' {L : List Int} {k : Nat} {n : Int} (h : L[k]? = some n) : ∀ j v, [iv n][j]? = some v → (L.flatMap iF)[(k : Int).toNat * 1 + j]? = some v := fun j v hj => by
  match j, hj with
  | 0, hj => cases hj; rw [Int.toNat_natCast, Nat.mul_one, Nat.add_zero]; exact atF h
abbrev bF (b : Bool) : List Value := [.bool b]
theorem bF_map (L : List Bool) : L.flatMap bF = L.map Value.bool := by
  induction L with
  | nil => rfl
  | cons a L ih => rw [List.flatMap_cons, ih]; rfl
theorem atB {L : List Bool} {k : Nat} {n : Bool} (h : L[k]? = some n) : ∀ j v, [Value.bool n][j]? = some v → (L.flatMap bF)[(k : Int).toNat * 1 + j]? = some v := fun j v hj => by
  match j, hj with
  | 0, hj => cases hj; rw [Int.toNat_natCast, Nat.mul_one, Nat.add_zero, bF_map, List.getElem?_map, h]; rfl
theorem stB {L : List Bool} {k : Nat} (hk : k < L.length) (n : Bool) : (k : Int).toNat * 1 + [Value.bool n].length ≤ (L.flatMap bF).length := by
  rw [bF_map, List.length_map, Int.toNat_natCast, Nat.mul_one]; exact hk
theorem stBE {L : List Bool} {k : Nat} (hk : k < L.length) (n : Bool) : (L.flatMap bF).take ((k : Int).toNat * ti4.size) ++ [Value.bool n] ++ (L.flatMap bF).drop ((k : Int).toNat * ti4.size + [Value.bool n].length) = (L.set k n).flatMap bF := by
  rw [show ti4.size = 1 from rfl, Int.toNat_natCast, Nat.mul_one, bF_map, bF_map, List.map_set, List.set_eq_take_append_cons_drop, if_pos (by rw [List.length_map]; exact hk)]
  simp

set_option maxHeartbeats 4000000 in
set_option maxRecDepth 100000 in
theorem JoinFault_ok (x : Cr) (o : Option Addr) (c : Nat) (K : List Kd) (go : Option Addr) (gc : Nat) (g : Rw) (w : World) (h : CrIn x w) (hK : KdIn o c K w) (hG : Rd 1 Rw.cs (.slice go 1 gc) [g] w) (hg : Rd 1 iF g.v g.xs w) (hgl : g.xs.length ≤ 1000000) :
    Calls Tryz.prog 46 #[x.v, .slice o K.length c, .slice go 1 gc] w fun e w' => e = .returned (iv (jfE x.N.length x.CC.length x.wk (K.map Kd.d) g.xs)) ∧ Below w.heap.size w w' := by
  have hst := fun (k : Kd) (hk : k ∈ K) w' hb => StaysFault_ok x k.o k.c k.S w' (h.below hb) ((hK.s k hk).below hb)
  obtain ⟨no, nc, N, wk, co, cc, C⟩ := x
  obtain ⟨hK1, hK2, hkl⟩ := hK
  obtain ⟨gro, grc, xs⟩ := g
  dsimp only at hst hgl ⊢
  change Rd 1 iF (.slice gro xs.length grc) xs w at hg
  refine calls_val env mixed Tryz.func46 has46 Tryz.ntmps46 [.agg #[.slice no N.length nc, iv wk, .slice co C.length cc], .slice o K.length c, .slice go 1 gc] (by simp) ?_
  have hkm : (K.map Kd.d).length = K.length := List.length_map ..
  have hcm : (C.map Rw.xs).length = C.length := List.length_map ..
  rw [jfE, hkm]
  by_cases h0 : 40 < K.length
  · rw [if_pos h0]
    repeat'
     conv => whnf
     first
      | refine zA ?_ | refine zB ?_ | refine zC ?_ | refine zD ?_ | refine zE ?_ | refine zF ?_ | refine zG ?_ | refine zH ?_ | refine zJ ?_ | refine zI ?_ | refine splT ?_ | refine splF ?_ | refine splNot ?_
      | ((first | refine splIn (fun hc => ?_) (fun hc => ?_) | refine splD (fun hc => ?_) (fun hc => ?_) | refine splE (fun hc => ?_) (fun hc => ?_) | refine splNE (fun hc => ?_) (fun hc => ?_)) <;> first | (exfalso; omega) | (exfalso; dsimp only at hc; omega) | skip)
    all_goals first | (exfalso; omega) | exact ⟨fun β => rfl, fun w' h => h⟩
  rw [if_neg h0]
  obtain ⟨_, adg, rfl, _⟩ := hG.ptr (Nat.le_refl _)
  have eg := fun (w' : World) hw' => rd_ati (hG.below (w' := w') hw') (k := 0) (b := (⟨gro, grc, xs⟩ : Rw)) rfl
  repeat'
   conv => whnf
   first
    | refine zA ?_ | refine zB ?_ | refine zC ?_ | refine zD ?_ | refine zE ?_ | refine zF ?_ | refine zG ?_ | refine zH ?_ | refine zJ ?_ | refine zI ?_ | refine splT ?_ | refine splF ?_ | refine splNot ?_
    | ((first | refine splIn (fun hc => ?_) (fun hc => ?_) | refine splD (fun hc => ?_) (fun hc => ?_) | refine splE (fun hc => ?_) (fun hc => ?_) | refine splNE (fun hc => ?_) (fun hc => ?_)) <;> first | (exfalso; omega) | (exfalso; dsimp only at hc; omega) | skip)
  all_goals first | (exfalso; omega) | skip
  refine loopE (fun k : Nat => [(1, .v (.slice o K.length c)), (2, .v (.slice (some adg) 1 gc)), (3, .ptr 0 0), (7, .v (iv k))]) (fun _ => [(0, .cells [.v (.slice no N.length nc), .v (iv wk), .v (.slice co C.length cc)] 56)]) (fun k => k ≤ K.length ∧ fsE N.length (C.map Rw.xs).length wk (K.map Kd.d) = fsE N.length (C.map Rw.xs).length wk ((K.map Kd.d).drop k)) (fun k => K.length - k) 0 ⟨Nat.zero_le _, rfl⟩ ⟨rfl, rfl, rfl, rfl, trivial⟩ ⟨rfl, trivial⟩ (fun _ => ⟨rfl, rfl⟩) ?_
  intro k ⟨hk, hfs⟩
  rcases Nat.lt_or_ge k K.length with hkl2 | hkl2
  · obtain ⟨⟨ko, kc, S⟩, hx⟩ : ∃ b, K[k]? = some b := ⟨_, List.getElem?_eq_getElem hkl2⟩
    obtain ⟨_, ad, rfl, _⟩ := hK1.ptr (by omega)
    have e0 := fun (w' : World) hw' => rd_ati (hK1.below (w' := w') hw') hx
    have hm : (K.map Kd.d)[k]? = some (S.map Sy.d) := by rw [List.getElem?_map, hx]; rfl
    have hs := hst _ (List.mem_of_getElem? hx)
    dsimp only at hs
    rw [fsE_drop hm] at hfs
    by_cases hz : stE N.length (C.map Rw.xs).length wk (S.map Sy.d) = 0
    · rw [if_pos hz] at hfs
      rw [hz] at hs
      repeat'
       conv => whnf
       first
        | refine zA ?_ | refine zB ?_ | refine zC ?_ | refine zD ?_ | refine zE ?_ | refine zF ?_ | refine zG ?_ | refine zH ?_ | refine zJ ?_ | refine zI ?_ | refine splT ?_ | refine splF ?_ | refine splNot ?_
        | ((first | refine splIn (fun hc => ?_) (fun hc => ?_) | refine splD (fun hc => ?_) (fun hc => ?_) | refine splE (fun hc => ?_) (fun hc => ?_) | refine splNE (fun hc => ?_) (fun hc => ?_)) <;> first | (exfalso; omega) | (exfalso; dsimp only at hc; omega) | skip)
        | refine Exists.intro (α := List Value) [.slice ko S.length kc] ⟨⟨rfl, fun w' hw' => e0 w' hw'⟩, ?_⟩
        | ((with_reducible show CallEv _ _ 28 _ _ _ _ _); refine callE (k := 28) (fun β w' hbw => hs _ hbw) ?_)
      all_goals first | (exfalso; omega) | exact ⟨k + 1, ⟨by omega, hfs⟩, by omega, Ent.weak rfl ⟨rfl, rfl, rfl, rfl, trivial⟩ ⟨rfl, trivial⟩ fun _ h => h⟩
    · rw [if_neg hz] at hfs
      rw [hfs, if_neg hz]
      generalize stE N.length (C.map Rw.xs).length wk (S.map Sy.d) = E at *
      repeat'
       conv => whnf
       first
        | refine zA ?_ | refine zB ?_ | refine zC ?_ | refine zD ?_ | refine zE ?_ | refine zF ?_ | refine zG ?_ | refine zH ?_ | refine zJ ?_ | refine zI ?_ | refine splT ?_ | refine splF ?_ | refine splNot ?_
        | ((first | refine splIn (fun hc => ?_) (fun hc => ?_) | refine splD (fun hc => ?_) (fun hc => ?_) | refine splE (fun hc => ?_) (fun hc => ?_) | refine splNE (fun hc => ?_) (fun hc => ?_)) <;> first | (exfalso; omega) | (exfalso; dsimp only at hc; omega) | skip)
        | refine Exists.intro (α := List Value) [.slice ko S.length kc] ⟨⟨rfl, fun w' hw' => e0 w' hw'⟩, ?_⟩
        | ((with_reducible show CallEv _ _ 28 _ _ _ _ _); refine callE (k := 28) (fun β w' hbw => hs _ hbw) ?_)
      all_goals first | (exfalso; omega) | exact ⟨fun β => rfl, fun w' h => h⟩
  rw [List.drop_eq_nil_of_le (by rw [hkm]; exact hkl2)] at hfs
  rw [hfs, show fsE N.length (C.map Rw.xs).length wk [] = 0 from rfl, if_pos rfl]
  clear hfs
  have hkk : k = K.length := by omega
  repeat'
   conv => whnf
   first
    | refine zA ?_ | refine zB ?_ | refine zC ?_ | refine zD ?_ | refine zE ?_ | refine zF ?_ | refine zG ?_ | refine zH ?_ | refine zJ ?_ | refine zI ?_ | refine splT ?_ | refine splF ?_ | refine splNot ?_
    | ((first | refine splIn (fun hc => ?_) (fun hc => ?_) | refine splD (fun hc => ?_) (fun hc => ?_) | refine splE (fun hc => ?_) (fun hc => ?_) | refine splNE (fun hc => ?_) (fun hc => ?_)) <;> first | (exfalso; omega) | (exfalso; dsimp only at hc; omega) | skip)
  all_goals first | (exfalso; omega) | skip
  refine loopE (fun k : Nat => [(1, .v (.slice o K.length c)), (2, .v (.slice (some adg) 1 gc)), (3, .ptr 0 0), (9, .v (iv k))]) (fun _ => [(0, .cells [.v (.slice no N.length nc), .v (iv wk), .v (.slice co C.length cc)] 56)]) (fun k => k ≤ K.length ∧ ((K.map Kd.d).take k).any (fun s => decide ((s.length : Int) = wk)) = false) (fun k => K.length - k) 0 ⟨Nat.zero_le _, rfl⟩ ⟨rfl, rfl, rfl, rfl, trivial⟩ ⟨rfl, trivial⟩ (fun _ => ⟨rfl, rfl⟩) ?_
  clear hkl2 hkk hk
  intro k ⟨hk, hany⟩
  rcases Nat.lt_or_ge k K.length with hkl2 | hkl2
  · obtain ⟨⟨ko, kc, S⟩, hx⟩ : ∃ b, K[k]? = some b := ⟨_, List.getElem?_eq_getElem hkl2⟩
    obtain ⟨_, ad, rfl, _⟩ := hK1.ptr (by omega)
    have e0 := fun (w' : World) hw' => rd_ati (hK1.below (w' := w') hw') hx
    have hm : (K.map Kd.d)[k]? = some (S.map Sy.d) := by rw [List.getElem?_map, hx]; rfl
    have hsm : (S.map Sy.d).length = S.length := List.length_map ..
    have hta := any_take (p := fun s : List (Int × List Int) => decide ((s.length : Int) = wk)) hm
    rw [hany, Bool.false_or, hsm] at hta
    have hSl := (hK2 _ (List.mem_of_getElem? hx)).sl
    dsimp only at hSl
    by_cases hz : (S.length : Int) = wk
    · rw [any_yes (p := fun s : List (Int × List Int) => decide ((s.length : Int) = wk)) hm (by rw [hsm]; exact decide_eq_true hz), if_pos rfl]
      repeat'
       conv => whnf
       first
        | refine zA ?_ | refine zB ?_ | refine zC ?_ | refine zD ?_ | refine zE ?_ | refine zF ?_ | refine zG ?_ | refine zH ?_ | refine zJ ?_ | refine zI ?_ | refine splT ?_ | refine splF ?_ | refine splNot ?_
        | ((first | refine splIn (fun hc => ?_) (fun hc => ?_) | refine splD (fun hc => ?_) (fun hc => ?_) | refine splE (fun hc => ?_) (fun hc => ?_) | refine splNE (fun hc => ?_) (fun hc => ?_)) <;> first | (exfalso; omega) | (exfalso; dsimp only at hc; omega) | skip)
        | refine Exists.intro (α := List Value) [.slice ko S.length kc] ⟨⟨rfl, fun w' hw' => e0 w' hw'⟩, ?_⟩
      all_goals first | (exfalso; omega) | exact ⟨fun β => rfl, fun w' h => h⟩
    · have hzz := hz
      repeat'
       conv => whnf
       first
        | refine zA ?_ | refine zB ?_ | refine zC ?_ | refine zD ?_ | refine zE ?_ | refine zF ?_ | refine zG ?_ | refine zH ?_ | refine zJ ?_ | refine zI ?_ | refine splT ?_ | refine splF ?_ | refine splNot ?_
        | ((first | refine splIn (fun hc => ?_) (fun hc => ?_) | refine splD (fun hc => ?_) (fun hc => ?_) | refine splE (fun hc => ?_) (fun hc => ?_) | refine splNE (fun hc => ?_) (fun hc => ?_)) <;> first | (exfalso; omega) | (exfalso; dsimp only at hc; omega) | skip)
        | refine Exists.intro (α := List Value) [.slice ko S.length kc] ⟨⟨rfl, fun w' hw' => e0 w' hw'⟩, ?_⟩
      all_goals first | (exfalso; omega) | exact ⟨k + 1, ⟨by omega, by rw [hta]; exact decide_eq_false hz⟩, by omega, Ent.weak rfl ⟨rfl, rfl, rfl, rfl, trivial⟩ ⟨rfl, trivial⟩ fun _ h => h⟩
  rw [List.take_of_length_le (by rw [hkm]; exact hkl2)] at hany
  rw [hany, if_neg (by decide)]
  have hkk : k = K.length := by omega
  repeat'
   conv => whnf
   first
    | refine zA ?_ | refine zB ?_ | refine zC ?_ | refine zD ?_ | refine zE ?_ | refine zF ?_ | refine zG ?_ | refine zH ?_ | refine zJ ?_ | refine zI ?_ | refine splT ?_ | refine splF ?_ | refine splNot ?_
    | ((first | refine splIn (fun hc => ?_) (fun hc => ?_) | refine splD (fun hc => ?_) (fun hc => ?_) | refine splE (fun hc => ?_) (fun hc => ?_) | refine splNE (fun hc => ?_) (fun hc => ?_)) <;> first | (exfalso; omega) | (exfalso; dsimp only at hc; omega) | skip)
    | refine mkO env 1 K.length ((List.replicate K.length (0 : Int)).flatMap iF) rfl rfl rfl (by decide) rfl (by omega) (by decide) (by rw [List.flatMap_replicate]; rfl) rfl ?_
  all_goals first | (exfalso; omega) | skip
  refine loopN 3 (fun k : Nat => [(1, .v (.slice o K.length c)), (2, .v (.slice (some adg) 1 gc)), (10, .os 1 2 K.length), (11, .v (iv k))]) (fun k => [(1, .own 2 K.length 1 ((usL (1 : Int) 0 K.length (if k = 0 then [] else xs)).flatMap iF) 3)])
    (fun k => k ≤ 1 ∧ (k = 1 → gOk K.length xs = true)) (fun k => 1 - k) 0 ⟨Nat.zero_le _, fun h => by cases h⟩ ⟨rfl, rfl, rfl, rfl, trivial⟩ ⟨by rw [if_pos rfl, usL_nil]; rfl, trivial⟩ (fun _ _ => ⟨rfl, rfl⟩) ?_
  clear hkl2 hkk hk
  intro k ⟨hk, hgo⟩
  obtain rfl | rfl : k = 0 ∨ k = 1 := by omega
  · rw [if_pos rfl]
    repeat'
     conv => whnf
     first
      | refine zA ?_ | refine zB ?_ | refine zC ?_ | refine zD ?_ | refine zE ?_ | refine zF ?_ | refine zG ?_ | refine zH ?_ | refine zJ ?_ | refine zI ?_ | refine splT ?_ | refine splF ?_ | refine splNot ?_
      | ((first | refine splIn (fun hc => ?_) (fun hc => ?_) | refine splD (fun hc => ?_) (fun hc => ?_) | refine splE (fun hc => ?_) (fun hc => ?_) | refine splNE (fun hc => ?_) (fun hc => ?_)) <;> first | (exfalso; omega) | (exfalso; dsimp only at hc; omega) | skip)
      | refine Exists.intro (α := List Value) [.slice gro xs.length grc] ⟨⟨rfl, fun w' hw' => eg w' hw'⟩, ?_⟩
    all_goals first | (exfalso; omega) | skip
    refine loopN 3 (fun j : Nat => [(1, .v (.slice o K.length c)), (2, .v (.slice (some adg) 1 gc)), (10, .os 1 2 K.length), (11, .v (iv (0 : Nat))), (12, .v (iv j))]) (fun j => [(1, .own 2 K.length 1 ((usL (1 : Int) 0 K.length (xs.take j)).flatMap iF) 3)])
      (fun j => j ≤ xs.length ∧ (xs.take j).all (fun n => inB n 0 (K.length - 1)) = true ∧ (xs.take j).Nodup) (fun j => xs.length - j) 0 ⟨Nat.zero_le _, rfl, List.nodup_nil⟩ ⟨rfl, rfl, rfl, rfl, rfl, trivial⟩ ⟨rfl, trivial⟩ (fun _ _ => ⟨rfl, rfl⟩) ?_
    intro j ⟨hj, hall, hnd⟩
    rcases Nat.lt_or_ge j xs.length with hjl | hjl
    · obtain ⟨n, hn⟩ : ∃ b, xs[j]? = some b := ⟨_, List.getElem?_eq_getElem hjl⟩
      obtain ⟨_, adr, rfl, _⟩ := hg.ptr (by omega)
      have en := fun (w' : World) hw' => rd_ati (hg.below (w' := w') hw') hn
      have hta := all_take (p := fun n => inB n 0 ((K.length : Int) - 1)) hn
      rw [hall, Bool.true_and] at hta
      have hnt := nodup_take hn
      have hv := fun w' => In_ok n 0 ((K.length : Int) - 1) w'
      cases hin : inB n 0 ((K.length : Int) - 1) with
      | false =>
        rw [hin] at hv
        rw [gOk_range hn hin, if_neg (by decide)]
        repeat'
         conv => whnf
         first
          | refine zA ?_ | refine zB ?_ | refine zC ?_ | refine zD ?_ | refine zE ?_ | refine zF ?_ | refine zG ?_ | refine zH ?_ | refine zJ ?_ | refine zI ?_ | refine splT ?_ | refine splF ?_ | refine splNot ?_
          | ((first | refine splIn (fun hc => ?_) (fun hc => ?_) | refine splD (fun hc => ?_) (fun hc => ?_) | refine splE (fun hc => ?_) (fun hc => ?_) | refine splNE (fun hc => ?_) (fun hc => ?_)) <;> first | (exfalso; omega) | (exfalso; dsimp only at hc; omega) | skip)
          | refine Exists.intro (α := List Value) [.slice (some adr) xs.length grc] ⟨⟨rfl, fun w' hw' => eg w' hw'⟩, ?_⟩
          | refine Exists.intro (α := List Value) [iv n] ⟨⟨rfl, fun w' hw' => en w' hw'⟩, ?_⟩
          | ((with_reducible show CallEv _ _ 67 _ _ _ _ _); refine callE (k := 67) (fun β w' hbw => hv _) ?_)
        all_goals first | (exfalso; omega) | exact ⟨fun β => rfl, fun w' h => h⟩
      | true =>
        have hin2 := hin
        rw [hin] at hv
        simp only [inB, Bool.and_eq_true, decide_eq_true_eq] at hin2
        obtain ⟨q, rfl⟩ := Int.eq_ofNat_of_zero_le hin2.1
        have hq : q < K.length := by omega
        have hat := usL_at (1 : Int) 0 (xs.take j) hq
        have hql : q < (usL (1 : Int) 0 K.length (xs.take j)).length := by rw [usL_len]; exact hq
        have hset := usL_set (1 : Int) 0 (xs.take j) hq
        have htk : xs.take (j + 1) = xs.take j ++ [(q : Int)] := by rw [List.take_add_one, hn]; rfl
        by_cases hmem : (q : Int) ∈ xs.take j
        · rw [if_pos hmem] at hat
          rw [gOk_twice hn hmem, if_neg (by decide)]
          repeat'
           conv => whnf
           first
            | refine zA ?_ | refine zB ?_ | refine zC ?_ | refine zD ?_ | refine zE ?_ | refine zF ?_ | refine zG ?_ | refine zH ?_ | refine zJ ?_ | refine zI ?_ | refine splT ?_ | refine splF ?_ | refine splNot ?_
            | ((first | refine splIn (fun hc => ?_) (fun hc => ?_) | refine splD (fun hc => ?_) (fun hc => ?_) | refine splE (fun hc => ?_) (fun hc => ?_) | refine splNE (fun hc => ?_) (fun hc => ?_)) <;> first | (exfalso; omega) | (exfalso; dsimp only at hc; omega) | skip)
            | refine Exists.intro (α := List Value) [.slice (some adr) xs.length grc] ⟨⟨rfl, fun w' hw' => eg w' hw'⟩, ?_⟩
            | refine Exists.intro (α := List Value) [iv q] ⟨⟨rfl, fun w' hw' => en w' hw'⟩, ?_⟩
            | ((with_reducible show CallEv _ _ 67 _ _ _ _ _); refine callE (k := 67) (fun β w' hbw => hv _) ?_)
            | refine Exists.intro (α := List Value) [iv 1] ⟨⟨rfl, atS' hat⟩, ?_⟩
          all_goals first | (exfalso; omega) | exact ⟨fun β => rfl, fun w' h => h⟩
        · rw [if_neg hmem] at hat
          repeat'
           conv => whnf
           first
            | refine zA ?_ | refine zB ?_ | refine zC ?_ | refine zD ?_ | refine zE ?_ | refine zF ?_ | refine zG ?_ | refine zH ?_ | refine zJ ?_ | refine zI ?_ | refine splT ?_ | refine splF ?_ | refine splNot ?_
            | ((first | refine splIn (fun hc => ?_) (fun hc => ?_) | refine splD (fun hc => ?_) (fun hc => ?_) | refine splE (fun hc => ?_) (fun hc => ?_) | refine splNE (fun hc => ?_) (fun hc => ?_)) <;> first | (exfalso; omega) | (exfalso; dsimp only at hc; omega) | skip)
            | refine Exists.intro (α := List Value) [.slice (some adr) xs.length grc] ⟨⟨rfl, fun w' hw' => eg w' hw'⟩, ?_⟩
            | refine Exists.intro (α := List Value) [iv q] ⟨⟨rfl, fun w' hw' => en w' hw'⟩, ?_⟩
            | ((with_reducible show CallEv _ _ 67 _ _ _ _ _); refine callE (k := 67) (fun β w' hbw => hv _) ?_)
            | refine Exists.intro (α := List Value) [iv 0] ⟨⟨rfl, atS' hat⟩, ?_⟩
            | (refine And.intro (a := _ + _ ≤ List.length _) (stS' hql _) ?_; rw [stE' hql])
          all_goals first | (exfalso; omega) | exact ⟨j + 1, ⟨by omega, by rw [hta]; exact hin, (hnt).2 ⟨hnd, hmem⟩⟩, by omega, Ent.weak rfl ⟨rfl, rfl, rfl, rfl, rfl, trivial⟩ ⟨by rw [htk, ← hset]; rfl, trivial⟩ fun _ h => h⟩
    · rw [List.take_of_length_le hjl] at hall hnd ⊢
      have hok : gOk K.length xs = true := by rw [gOk, hall, decide_eq_true hnd]; rfl
      have hjj : j = xs.length := by omega
      repeat'
       conv => whnf
       first
        | refine zA ?_ | refine zB ?_ | refine zC ?_ | refine zD ?_ | refine zE ?_ | refine zF ?_ | refine zG ?_ | refine zH ?_ | refine zJ ?_ | refine zI ?_ | refine splT ?_ | refine splF ?_ | refine splNot ?_
        | ((first | refine splIn (fun hc => ?_) (fun hc => ?_) | refine splD (fun hc => ?_) (fun hc => ?_) | refine splE (fun hc => ?_) (fun hc => ?_) | refine splNE (fun hc => ?_) (fun hc => ?_)) <;> first | (exfalso; omega) | (exfalso; dsimp only at hc; omega) | skip)
        | refine Exists.intro (α := List Value) [.slice gro xs.length grc] ⟨⟨rfl, fun w' hw' => eg w' hw'⟩, ?_⟩
      all_goals first | (exfalso; omega) | exact ⟨1, ⟨Nat.le_refl _, fun _ => hok⟩, by omega, Ent.weak rfl ⟨rfl, rfl, rfl, rfl, trivial⟩ ⟨rfl, trivial⟩ fun _ h => h⟩
  · rw [hgo rfl, if_pos rfl]
    repeat'
     conv => whnf
     first
      | refine zA ?_ | refine zB ?_ | refine zC ?_ | refine zD ?_ | refine zE ?_ | refine zF ?_ | refine zG ?_ | refine zH ?_ | refine zJ ?_ | refine zI ?_ | refine splT ?_ | refine splF ?_ | refine splNot ?_
      | ((first | refine splIn (fun hc => ?_) (fun hc => ?_) | refine splD (fun hc => ?_) (fun hc => ?_) | refine splE (fun hc => ?_) (fun hc => ?_) | refine splNE (fun hc => ?_) (fun hc => ?_)) <;> first | (exfalso; omega) | (exfalso; dsimp only at hc; omega) | skip)
    all_goals first | (exfalso; omega) | exact ⟨fun β => rfl, fun w' h => h⟩

set_option maxHeartbeats 4000000 in
set_option maxRecDepth 100000 in
theorem joined_ok (x : Cr) (o : Option Addr) (c : Nat) (K : List Kd) (go : Option Addr) (gc : Nat) (g : Rw) (w : World) (h : CrIn x w) (hK : KdIn o c K w) (hG : Rd 1 Rw.cs (.slice go 1 gc) [g] w) (hg : Rd 1 iF g.v g.xs w) (hgl : g.xs.length ≤ 1000000) :
    Calls Tryz.prog 90 #[x.v, .slice o K.length c, .slice go 1 gc] w fun e w' => e = .returned (iv (jfE x.N.length x.CC.length x.wk (K.map Kd.d) g.xs)) ∧ Below w.heap.size w w' := by
  have hst := fun (k : Kd) (hk : k ∈ K) w' hb => stays_ok x k.o k.c k.S w' (h.below hb) ((hK.s k hk).below hb)
  obtain ⟨no, nc, N, wk, co, cc, C⟩ := x
  obtain ⟨hK1, hK2, hkl⟩ := hK
  obtain ⟨gro, grc, xs⟩ := g
  dsimp only at hst hgl ⊢
  change Rd 1 iF (.slice gro xs.length grc) xs w at hg
  refine calls_val env mixed Tryz.func90 has90 Tryz.ntmps90 [.agg #[.slice no N.length nc, iv wk, .slice co C.length cc], .slice o K.length c, .slice go 1 gc] (by simp) ?_
  have hkm : (K.map Kd.d).length = K.length := List.length_map ..
  have hcm : (C.map Rw.xs).length = C.length := List.length_map ..
  rw [jfE, hkm]
  by_cases h0 : 40 < K.length
  · rw [if_pos h0]
    repeat'
     conv => whnf
     first
      | refine zA ?_ | refine zB ?_ | refine zC ?_ | refine zD ?_ | refine zE ?_ | refine zF ?_ | refine zG ?_ | refine zH ?_ | refine zJ ?_ | refine zI ?_ | refine splT ?_ | refine splF ?_ | refine splNot ?_
      | ((first | refine splIn (fun hc => ?_) (fun hc => ?_) | refine splD (fun hc => ?_) (fun hc => ?_) | refine splE (fun hc => ?_) (fun hc => ?_) | refine splNE (fun hc => ?_) (fun hc => ?_)) <;> first | (exfalso; omega) | (exfalso; dsimp only at hc; omega) | skip)
    all_goals first | (exfalso; omega) | exact ⟨fun β => rfl, fun w' h => h⟩
  rw [if_neg h0]
  obtain ⟨_, adg, rfl, _⟩ := hG.ptr (Nat.le_refl _)
  have eg := fun (w' : World) hw' => rd_ati (hG.below (w' := w') hw') (k := 0) (b := (⟨gro, grc, xs⟩ : Rw)) rfl
  repeat'
   conv => whnf
   first
    | refine zA ?_ | refine zB ?_ | refine zC ?_ | refine zD ?_ | refine zE ?_ | refine zF ?_ | refine zG ?_ | refine zH ?_ | refine zJ ?_ | refine zI ?_ | refine splT ?_ | refine splF ?_ | refine splNot ?_
    | ((first | refine splIn (fun hc => ?_) (fun hc => ?_) | refine splD (fun hc => ?_) (fun hc => ?_) | refine splE (fun hc => ?_) (fun hc => ?_) | refine splNE (fun hc => ?_) (fun hc => ?_)) <;> first | (exfalso; omega) | (exfalso; dsimp only at hc; omega) | skip)
  all_goals first | (exfalso; omega) | skip
  refine loopE (fun k : Nat => [(1, .v (.slice o K.length c)), (2, .v (.slice (some adg) 1 gc)), (3, .ptr 0 0), (23, .v (.slice o K.length c)), (24, .v (iv K.length)), (25, .v (iv k))]) (fun _ => [(0, .cells [.v (.slice no N.length nc), .v (iv wk), .v (.slice co C.length cc)] 63)]) (fun k => k ≤ K.length ∧ fsE N.length (C.map Rw.xs).length wk (K.map Kd.d) = fsE N.length (C.map Rw.xs).length wk ((K.map Kd.d).drop k)) (fun k => K.length - k) 0 ⟨Nat.zero_le _, rfl⟩ ⟨rfl, rfl, rfl, rfl, rfl, rfl, trivial⟩ ⟨rfl, trivial⟩ (fun _ => ⟨rfl, rfl⟩) ?_
  intro k ⟨hk, hfs⟩
  rcases Nat.lt_or_ge k K.length with hkl2 | hkl2
  · obtain ⟨⟨ko, kc, S⟩, hx⟩ : ∃ b, K[k]? = some b := ⟨_, List.getElem?_eq_getElem hkl2⟩
    obtain ⟨_, ad, rfl, _⟩ := hK1.ptr (by omega)
    have e0 := fun (w' : World) hw' => rd_ati (hK1.below (w' := w') hw') hx
    have hm : (K.map Kd.d)[k]? = some (S.map Sy.d) := by rw [List.getElem?_map, hx]; rfl
    have hs := hst _ (List.mem_of_getElem? hx)
    dsimp only at hs
    rw [fsE_drop hm] at hfs
    by_cases hz : stE N.length (C.map Rw.xs).length wk (S.map Sy.d) = 0
    · rw [if_pos hz] at hfs
      rw [hz] at hs
      repeat'
       conv => whnf
       first
        | refine zA ?_ | refine zB ?_ | refine zC ?_ | refine zD ?_ | refine zE ?_ | refine zF ?_ | refine zG ?_ | refine zH ?_ | refine zJ ?_ | refine zI ?_ | refine splT ?_ | refine splF ?_ | refine splNot ?_
        | ((first | refine splIn (fun hc => ?_) (fun hc => ?_) | refine splD (fun hc => ?_) (fun hc => ?_) | refine splE (fun hc => ?_) (fun hc => ?_) | refine splNE (fun hc => ?_) (fun hc => ?_)) <;> first | (exfalso; omega) | (exfalso; dsimp only at hc; omega) | skip)
        | refine Exists.intro (α := List Value) [.slice ko S.length kc] ⟨⟨rfl, fun w' hw' => e0 w' hw'⟩, ?_⟩
        | ((with_reducible show CallEv _ _ 106 _ _ _ _ _); refine callE (k := 106) (fun β w' hbw => hs _ hbw) ?_)
      all_goals first | (exfalso; omega) | exact ⟨k + 1, ⟨by omega, hfs⟩, by omega, Ent.weak rfl ⟨rfl, rfl, rfl, rfl, rfl, rfl, trivial⟩ ⟨rfl, trivial⟩ fun _ h => h⟩
    · rw [if_neg hz] at hfs
      rw [hfs, if_neg hz]
      generalize stE N.length (C.map Rw.xs).length wk (S.map Sy.d) = E at *
      repeat'
       conv => whnf
       first
        | refine zA ?_ | refine zB ?_ | refine zC ?_ | refine zD ?_ | refine zE ?_ | refine zF ?_ | refine zG ?_ | refine zH ?_ | refine zJ ?_ | refine zI ?_ | refine splT ?_ | refine splF ?_ | refine splNot ?_
        | ((first | refine splIn (fun hc => ?_) (fun hc => ?_) | refine splD (fun hc => ?_) (fun hc => ?_) | refine splE (fun hc => ?_) (fun hc => ?_) | refine splNE (fun hc => ?_) (fun hc => ?_)) <;> first | (exfalso; omega) | (exfalso; dsimp only at hc; omega) | skip)
        | refine Exists.intro (α := List Value) [.slice ko S.length kc] ⟨⟨rfl, fun w' hw' => e0 w' hw'⟩, ?_⟩
        | ((with_reducible show CallEv _ _ 106 _ _ _ _ _); refine callE (k := 106) (fun β w' hbw => hs _ hbw) ?_)
      all_goals first | (exfalso; omega) | exact ⟨fun β => rfl, fun w' h => h⟩
  rw [List.drop_eq_nil_of_le (by rw [hkm]; exact hkl2)] at hfs
  rw [hfs, show fsE N.length (C.map Rw.xs).length wk [] = 0 from rfl, if_pos rfl]
  have hwkA := fsE_le (hfs.trans rfl)
  clear hfs
  have hkk : k = K.length := by omega
  repeat'
   conv => whnf
   first
    | refine zA ?_ | refine zB ?_ | refine zC ?_ | refine zD ?_ | refine zE ?_ | refine zF ?_ | refine zG ?_ | refine zH ?_ | refine zJ ?_ | refine zI ?_ | refine splT ?_ | refine splF ?_ | refine splNot ?_
    | ((first | refine splIn (fun hc => ?_) (fun hc => ?_) | refine splD (fun hc => ?_) (fun hc => ?_) | refine splE (fun hc => ?_) (fun hc => ?_) | refine splNE (fun hc => ?_) (fun hc => ?_)) <;> first | (exfalso; omega) | (exfalso; dsimp only at hc; omega) | skip)
    | ((with_reducible show CallEv _ _ 112 _ _ _ _ _); refine callI env mixed 1000 [1, 2, 3] Tryz.func112 has112 Tryz.ntmps112 (Nat.le_of_ble_eq_true rfl) rfl rfl rfl ?_)
    | ((with_reducible show CallEv _ _ 143 _ _ _ _ _); refine callI env mixed 2000 [] Tryz.func143 has143 Tryz.ntmps143 (Nat.le_of_ble_eq_true rfl) rfl rfl rfl ?_)
    | ((with_reducible show CallEv _ _ 167 _ _ _ _ _); refine callI env mixed 3000 [] Tryz.func167 has167 Tryz.ntmps167 (Nat.le_of_ble_eq_true rfl) rfl rfl rfl ?_)
  all_goals first | (exfalso; omega) | skip
  conv => whnf
  refine loopE (fun k : Nat => [(0, .v (.slice o K.length c)), (1, .fn (.func 144) [.ptr 1 0]), (7, .v (iv K.length)), (8, .v (iv k))]) (fun _ => [(1, .cells [.fn (.func 113) [.ptr 0 0]] 161), (0, .cells [.v (.slice no N.length nc), .v (iv wk), .v (.slice co C.length cc)] 63)]) (fun k => k ≤ K.length ∧ ((K.map Kd.d).take k).all (fun s => decide ((s.length : Int) < wk)) = true) (fun k => K.length - k) 0 ⟨Nat.zero_le _, rfl⟩ ⟨rfl, rfl, rfl, rfl, trivial⟩ ⟨rfl, rfl, trivial⟩ (fun _ => ⟨rfl, rfl⟩) ?_
  clear hkl2 hkk hk
  intro k ⟨hk, hall⟩
  rcases Nat.lt_or_ge k K.length with hkl2 | hkl2
  · obtain ⟨⟨ko, kc, S⟩, hx⟩ : ∃ b, K[k]? = some b := ⟨_, List.getElem?_eq_getElem hkl2⟩
    obtain ⟨_, ad, rfl, _⟩ := hK1.ptr (by omega)
    have e0 := fun (w' : World) hw' => rd_ati (hK1.below (w' := w') hw') hx
    have hm : (K.map Kd.d)[k]? = some (S.map Sy.d) := by rw [List.getElem?_map, hx]; rfl
    have hsm : (S.map Sy.d).length = S.length := List.length_map ..
    have hta := all_take (p := fun s : List (Int × List Int) => decide ((s.length : Int) < wk)) hm
    rw [hall, Bool.true_and, hsm] at hta
    have hSl := (hK2 _ (List.mem_of_getElem? hx)).sl
    dsimp only at hSl
    have hle := hwkA _ _ hm
    rw [hsm] at hle
    by_cases hz : (S.length : Int) < wk
    · have hzz := hz
      repeat'
       conv => whnf
       first
        | refine zA ?_ | refine zB ?_ | refine zC ?_ | refine zD ?_ | refine zE ?_ | refine zF ?_ | refine zG ?_ | refine zH ?_ | refine zJ ?_ | refine zI ?_ | refine splT ?_ | refine splF ?_ | refine splNot ?_
        | ((first | refine splIn (fun hc => ?_) (fun hc => ?_) | refine splD (fun hc => ?_) (fun hc => ?_) | refine splE (fun hc => ?_) (fun hc => ?_) | refine splNE (fun hc => ?_) (fun hc => ?_)) <;> first | (exfalso; omega) | (exfalso; dsimp only at hc; omega) | skip)
        | refine Exists.intro (α := List Value) [.slice ko S.length kc] ⟨⟨rfl, fun w' hw' => e0 w' hw'⟩, ?_⟩
        | ((with_reducible show CallEv _ _ 144 _ _ _ _ _); refine callI env mixed 4000 [0,1,5,7,8] Tryz.func144 has144 Tryz.ntmps144 (Nat.le_of_ble_eq_true rfl) rfl rfl rfl ?_)
        | ((with_reducible show CallEv _ _ 113 _ _ _ _ _); refine callI env mixed 5000 [] Tryz.func113 has113 Tryz.ntmps113 (Nat.le_of_ble_eq_true rfl) rfl rfl rfl ?_)
      all_goals first | (exfalso; omega) | exact ⟨k + 1, ⟨by omega, by rw [hta]; exact decide_eq_true hz⟩, by omega, Ent.weak rfl ⟨rfl, rfl, rfl, rfl, trivial⟩ ⟨rfl, rfl, trivial⟩ fun _ h => h⟩
    · rw [any_yes (p := fun s : List (Int × List Int) => decide ((s.length : Int) = wk)) hm (by rw [hsm]; exact decide_eq_true (by omega)), if_pos rfl]
      repeat'
       conv => whnf
       first
        | refine zA ?_ | refine zB ?_ | refine zC ?_ | refine zD ?_ | refine zE ?_ | refine zF ?_ | refine zG ?_ | refine zH ?_ | refine zJ ?_ | refine zI ?_ | refine splT ?_ | refine splF ?_ | refine splNot ?_
        | ((first | refine splIn (fun hc => ?_) (fun hc => ?_) | refine splD (fun hc => ?_) (fun hc => ?_) | refine splE (fun hc => ?_) (fun hc => ?_) | refine splNE (fun hc => ?_) (fun hc => ?_)) <;> first | (exfalso; omega) | (exfalso; dsimp only at hc; omega) | skip)
        | refine Exists.intro (α := List Value) [.slice ko S.length kc] ⟨⟨rfl, fun w' hw' => e0 w' hw'⟩, ?_⟩
        | ((with_reducible show CallEv _ _ 144 _ _ _ _ _); refine callI env mixed 4000 [0,1,5,7,8] Tryz.func144 has144 Tryz.ntmps144 (Nat.le_of_ble_eq_true rfl) rfl rfl rfl ?_)
        | ((with_reducible show CallEv _ _ 113 _ _ _ _ _); refine callI env mixed 5000 [] Tryz.func113 has113 Tryz.ntmps113 (Nat.le_of_ble_eq_true rfl) rfl rfl rfl ?_)
      all_goals first | (exfalso; omega) | exact ⟨fun β => rfl, fun w' h => h⟩
  rw [List.take_of_length_le (by rw [hkm]; exact hkl2)] at hall
  have hany : (K.map Kd.d).any (fun s => decide ((s.length : Int) = wk)) = false := by
    rw [List.any_eq_false]
    intro s hs
    have := List.all_eq_true.1 hall s hs
    simp only [decide_eq_true_eq] at this ⊢
    omega
  rw [hany, if_neg (by decide)]
  have hkk : k = K.length := by omega
  repeat'
   conv => whnf
   first
    | refine zA ?_ | refine zB ?_ | refine zC ?_ | refine zD ?_ | refine zE ?_ | refine zF ?_ | refine zG ?_ | refine zH ?_ | refine zJ ?_ | refine zI ?_ | refine splT ?_ | refine splF ?_ | refine splNot ?_
    | ((first | refine splIn (fun hc => ?_) (fun hc => ?_) | refine splD (fun hc => ?_) (fun hc => ?_) | refine splE (fun hc => ?_) (fun hc => ?_) | refine splNE (fun hc => ?_) (fun hc => ?_)) <;> first | (exfalso; omega) | (exfalso; dsimp only at hc; omega) | skip)
    | refine mkO env 2 K.length ((List.replicate K.length false).flatMap bF) rfl rfl rfl (by decide) rfl (by omega) (by decide) (by rw [List.flatMap_replicate]; rfl) rfl ?_
  all_goals first | (exfalso; omega) | skip
  refine loopN 4 (fun k : Nat => [(1, .v (.slice o K.length c)), (10, .os 2 3 K.length), (43, .v (.slice (some adg) 1 gc)), (44, .v (iv (1 : Nat))), (45, .v (iv k))]) (fun k => [(2, .own 3 K.length 1 ((usL true false K.length (if k = 0 then [] else xs)).flatMap bF) 4)])
    (fun k => k ≤ 1 ∧ (k = 1 → gOk K.length xs = true)) (fun k => 1 - k) 0 ⟨Nat.zero_le _, fun h => by cases h⟩ ⟨rfl, rfl, rfl, rfl, rfl, trivial⟩ ⟨by rw [if_pos rfl, usL_nil]; rfl, trivial⟩ (fun _ _ => ⟨rfl, rfl⟩) ?_
  clear hkl2 hkk hk
  intro k ⟨hk, hgo⟩
  obtain rfl | rfl : k = 0 ∨ k = 1 := by omega
  · rw [if_pos rfl]
    repeat'
     conv => whnf
     first
      | refine zA ?_ | refine zB ?_ | refine zC ?_ | refine zD ?_ | refine zE ?_ | refine zF ?_ | refine zG ?_ | refine zH ?_ | refine zJ ?_ | refine zI ?_ | refine splT ?_ | refine splF ?_ | refine splNot ?_
      | ((first | refine splIn (fun hc => ?_) (fun hc => ?_) | refine splD (fun hc => ?_) (fun hc => ?_) | refine splE (fun hc => ?_) (fun hc => ?_) | refine splNE (fun hc => ?_) (fun hc => ?_)) <;> first | (exfalso; omega) | (exfalso; dsimp only at hc; omega) | skip)
      | refine Exists.intro (α := List Value) [.slice gro xs.length grc] ⟨⟨rfl, fun w' hw' => eg w' hw'⟩, ?_⟩
    all_goals first | (exfalso; omega) | skip
    refine loopN 4 (fun j : Nat => [(1, .v (.slice o K.length c)), (10, .os 2 3 K.length), (43, .v (.slice (some adg) 1 gc)), (44, .v (iv (1 : Nat))), (45, .v (iv (0 : Nat))), (49, .v (.slice gro xs.length grc)), (50, .v (iv xs.length)), (51, .v (iv j))]) (fun j => [(2, .own 3 K.length 1 ((usL true false K.length (xs.take j)).flatMap bF) 4)])
      (fun j => j ≤ xs.length ∧ (xs.take j).all (fun n => inB n 0 (K.length - 1)) = true ∧ (xs.take j).Nodup) (fun j => xs.length - j) 0 ⟨Nat.zero_le _, rfl, List.nodup_nil⟩ ⟨rfl, rfl, rfl, rfl, rfl, rfl, rfl, rfl, trivial⟩ ⟨rfl, trivial⟩ (fun _ _ => ⟨rfl, rfl⟩) ?_
    intro j ⟨hj, hall2, hnd⟩
    rcases Nat.lt_or_ge j xs.length with hjl | hjl
    · obtain ⟨n, hn⟩ : ∃ b, xs[j]? = some b := ⟨_, List.getElem?_eq_getElem hjl⟩
      obtain ⟨_, adr, rfl, _⟩ := hg.ptr (by omega)
      have en := fun (w' : World) hw' => rd_ati (hg.below (w' := w') hw') hn
      have hta := all_take (p := fun n => inB n 0 ((K.length : Int) - 1)) hn
      rw [hall2, Bool.true_and] at hta
      have hnt := nodup_take hn
      have hv := fun w' => within_ok n 0 ((K.length : Int) - 1) w'
      cases hin : inB n 0 ((K.length : Int) - 1) with
      | false =>
        rw [hin] at hv
        rw [gOk_range hn hin, if_neg (by decide)]
        repeat'
         conv => whnf
         first
          | refine zA ?_ | refine zB ?_ | refine zC ?_ | refine zD ?_ | refine zE ?_ | refine zF ?_ | refine zG ?_ | refine zH ?_ | refine zJ ?_ | refine zI ?_ | refine splT ?_ | refine splF ?_ | refine splNot ?_
          | ((first | refine splIn (fun hc => ?_) (fun hc => ?_) | refine splD (fun hc => ?_) (fun hc => ?_) | refine splE (fun hc => ?_) (fun hc => ?_) | refine splNE (fun hc => ?_) (fun hc => ?_)) <;> first | (exfalso; omega) | (exfalso; dsimp only at hc; omega) | skip)
          | refine Exists.intro (α := List Value) [iv n] ⟨⟨rfl, fun w' hw' => en w' hw'⟩, ?_⟩
          | ((with_reducible show CallEv _ _ 84 _ _ _ _ _); refine callE (k := 84) (fun β w' hbw => hv _) ?_)
        all_goals first | (exfalso; omega) | exact ⟨fun β => rfl, fun w' h => h⟩
      | true =>
        have hin2 := hin
        rw [hin] at hv
        simp only [inB, Bool.and_eq_true, decide_eq_true_eq] at hin2
        obtain ⟨q, rfl⟩ := Int.eq_ofNat_of_zero_le hin2.1
        have hq : q < K.length := by omega
        have hat := usL_at true false (xs.take j) hq
        have hql : q < (usL true false K.length (xs.take j)).length := by rw [usL_len]; exact hq
        have hset := usL_set true false (xs.take j) hq
        have htk : xs.take (j + 1) = xs.take j ++ [(q : Int)] := by rw [List.take_add_one, hn]; rfl
        by_cases hmem : (q : Int) ∈ xs.take j
        · rw [if_pos hmem] at hat
          rw [gOk_twice hn hmem, if_neg (by decide)]
          repeat'
           conv => whnf
           first
            | refine zA ?_ | refine zB ?_ | refine zC ?_ | refine zD ?_ | refine zE ?_ | refine zF ?_ | refine zG ?_ | refine zH ?_ | refine zJ ?_ | refine zI ?_ | refine splT ?_ | refine splF ?_ | refine splNot ?_
            | ((first | refine splIn (fun hc => ?_) (fun hc => ?_) | refine splD (fun hc => ?_) (fun hc => ?_) | refine splE (fun hc => ?_) (fun hc => ?_) | refine splNE (fun hc => ?_) (fun hc => ?_)) <;> first | (exfalso; omega) | (exfalso; dsimp only at hc; omega) | skip)
            | refine Exists.intro (α := List Value) [iv q] ⟨⟨rfl, fun w' hw' => en w' hw'⟩, ?_⟩
            | ((with_reducible show CallEv _ _ 84 _ _ _ _ _); refine callE (k := 84) (fun β w' hbw => hv _) ?_)
            | refine Exists.intro (α := List Value) [Value.bool true] ⟨⟨rfl, atB hat⟩, ?_⟩
          all_goals first | (exfalso; omega) | exact ⟨fun β => rfl, fun w' h => h⟩
        · rw [if_neg hmem] at hat
          repeat'
           conv => whnf
           first
            | refine zA ?_ | refine zB ?_ | refine zC ?_ | refine zD ?_ | refine zE ?_ | refine zF ?_ | refine zG ?_ | refine zH ?_ | refine zJ ?_ | refine zI ?_ | refine splT ?_ | refine splF ?_ | refine splNot ?_
            | ((first | refine splIn (fun hc => ?_) (fun hc => ?_) | refine splD (fun hc => ?_) (fun hc => ?_) | refine splE (fun hc => ?_) (fun hc => ?_) | refine splNE (fun hc => ?_) (fun hc => ?_)) <;> first | (exfalso; omega) | (exfalso; dsimp only at hc; omega) | skip)
            | refine Exists.intro (α := List Value) [iv q] ⟨⟨rfl, fun w' hw' => en w' hw'⟩, ?_⟩
            | ((with_reducible show CallEv _ _ 84 _ _ _ _ _); refine callE (k := 84) (fun β w' hbw => hv _) ?_)
            | refine Exists.intro (α := List Value) [Value.bool false] ⟨⟨rfl, atB hat⟩, ?_⟩
            | (refine And.intro (a := _ + _ ≤ List.length _) (stB hql _) ?_; rw [stBE hql])
          all_goals first | (exfalso; omega) | exact ⟨j + 1, ⟨by omega, by rw [hta]; exact hin, (hnt).2 ⟨hnd, hmem⟩⟩, by omega, Ent.weak rfl ⟨rfl, rfl, rfl, rfl, rfl, rfl, rfl, rfl, trivial⟩ ⟨by rw [htk, ← hset]; rfl, trivial⟩ fun _ h => h⟩
    · rw [List.take_of_length_le hjl] at hall2 hnd ⊢
      have hok : gOk K.length xs = true := by rw [gOk, hall2, decide_eq_true hnd]; rfl
      have hjj : j = xs.length := by omega
      repeat'
       conv => whnf
       first
        | refine zA ?_ | refine zB ?_ | refine zC ?_ | refine zD ?_ | refine zE ?_ | refine zF ?_ | refine zG ?_ | refine zH ?_ | refine zJ ?_ | refine zI ?_ | refine splT ?_ | refine splF ?_ | refine splNot ?_
        | ((first | refine splIn (fun hc => ?_) (fun hc => ?_) | refine splD (fun hc => ?_) (fun hc => ?_) | refine splE (fun hc => ?_) (fun hc => ?_) | refine splNE (fun hc => ?_) (fun hc => ?_)) <;> first | (exfalso; omega) | (exfalso; dsimp only at hc; omega) | skip)
      all_goals first | (exfalso; omega) | exact ⟨1, ⟨Nat.le_refl _, fun _ => hok⟩, by omega, Ent.weak rfl ⟨rfl, rfl, rfl, rfl, rfl, trivial⟩ ⟨rfl, trivial⟩ fun _ h => h⟩
  · rw [hgo rfl, if_pos rfl]
    repeat'
     conv => whnf
     first
      | refine zA ?_ | refine zB ?_ | refine zC ?_ | refine zD ?_ | refine zE ?_ | refine zF ?_ | refine zG ?_ | refine zH ?_ | refine zJ ?_ | refine zI ?_ | refine splT ?_ | refine splF ?_ | refine splNot ?_
      | ((first | refine splIn (fun hc => ?_) (fun hc => ?_) | refine splD (fun hc => ?_) (fun hc => ?_) | refine splE (fun hc => ?_) (fun hc => ?_) | refine splNE (fun hc => ?_) (fun hc => ?_)) <;> first | (exfalso; omega) | (exfalso; dsimp only at hc; omega) | skip)
    all_goals first | (exfalso; omega) | exact ⟨fun β => rfl, fun w' h => h⟩
end Go.Proofs.YtpleibfohjbneaaGreat
