/- SchoolGroups: what is said of both results of Join. -/
import Derived.Test.YtpleibfohjbneaaGreatSQ
namespace Go.Proofs.YtpleibfohjbneaaGreat
open Go Tx Go.RowKit
set_option linter.unusedSimpArgs false
set_option linter.unusedVariables false

theorem jy_row {R : List Int} {a1 : Addr} {b1 : Nat} {a2 : Addr} {b2 m : Nat} {w : World} (h : jyH R ((a1, b1), (a2, b2)) w) (hm : R.length = m) : ∀ j v, [Value.slice (some a2) m b2][j]? = some v → w.cell? ((a1.add ((0 : Int).toNat * 1)).add j) = some v := by
  subst hm
  exact rd_ati h.1 (k := 0) (b := (⟨some a2, b2, R⟩ : Rw)) rfl
theorem jy_at {R : List Int} {a1 : Addr} {b1 : Nat} {a2 : Addr} {b2 k : Nat} {v : Int} {w : World} (h : jyH R ((a1, b1), (a2, b2)) w) (hk : R[k]? = some v) : ∀ j u, [iv v][j]? = some u → w.cell? ((a2.add ((k : Int).toNat * 1)).add j) = some u := rd_ati h.2 hk
/-- The state behind what is said of both. -/
abbrev gS8 (no : Option Addr) (nc : Nat) (N : List Int) (wk : Int) (co : Option Addr) (cc : Nat) (C : List Rw) (o : Option Addr) (c : Nat) (K : List Kd) (go : Option Addr) (gc : Nat) (xs : List Int) (n : Int) (w : World) (y : (Addr × Nat) × (Addr × Nat)) : Sg :=
  ⟨204, [(1, .v (.slice o K.length c)), (2, .v (.slice go xs.length gc)), (4, .ptr 0 0), (10, .v (.slice (some y.1.1) 1 y.1.2))], [(0, .cells [.v (.slice no N.length nc), .v (iv wk), .v (.slice co C.length cc)] 56)], 1, fun w2 => Below w.heap.size w w2 ∧ jyH (jnR N wk (C.map Rw.xs) (K.map Kd.d) xs) y w2, z0⟩

set_option maxHeartbeats 8000000 in
set_option maxRecDepth 100000 in
theorem Gr6 (no : Option Addr) (nc : Nat) (N : List Int) (wk : Int) (co : Option Addr) (cc : Nat) (C : List Rw) (o : Option Addr) (c : Nat) (K : List Kd) (go : Option Addr) (gc : Nat) (xs : List Int) (n : Int) (w : World) (y z : (Addr × Nat) × (Addr × Nat)) (hnl : N.length ≤ 1000000)
    (h8 : VC Tryz.prog (rest 2 (rest 1 (rest 1 (rest 4 body11)))) (gS8 no nc N wk co cc C o c K go gc xs n w y) (endΦ env Tryz.f11 fun s σ => (∀ β, s.c β = .bool true) ∧ ∀ w', σ.h w' → Below w.heap.size w w')) : VC Tryz.prog (rest 1 (rest 1 (rest 4 body11))) (gS6 no nc N wk co cc C o c K go gc xs n w y z) (endΦ env Tryz.f11 fun s σ => (∀ β, s.c β = .bool true) ∧ ∀ w', σ.h w' → Below w.heap.size w w') := by
  have hR1 : (jnR N wk (C.map Rw.xs) (K.map Kd.d) xs).length = N.length := jnR_len ..
  have hR2 : (jnR N wk (C.map Rw.xs) (K.map Kd.d) (xs ++ [n])).length = N.length := jnR_len ..
  have hat1 : ∀ j, j < N.length → ∃ v, (jnR N wk (C.map Rw.xs) (K.map Kd.d) xs)[j]? = some v ∧ ∃ u, (jnR N wk (C.map Rw.xs) (K.map Kd.d) (xs ++ [n]))[j]? = some u ∧ 0 ≤ v ∧ v ≤ u ∧ u ≤ 20 := fun j hj => ⟨_, jnR_at hj, _, jnR_at hj, jnV_pos, jnV_mono, jnV_up⟩
  obtain ⟨⟨y1, y2⟩, y3, y4⟩ := y
  obtain ⟨⟨z1, z2⟩, z3, z4⟩ := z
  refine VC.cutH env mixed 2 1 (fun _ : Unit => [(1, .v (.slice o K.length c)), (2, .v (.slice go xs.length gc)), (4, .ptr 0 0), (10, .v (.slice (some y1) 1 y2))]) (fun _ => [(0, .cells [.v (.slice no N.length nc), .v (iv wk), .v (.slice co C.length cc)] 56)]) (fun _ w2 => Below w.heap.size w w2 ∧ jyH (jnR N wk (C.map Rw.xs) (K.map Kd.d) xs) ((y1, y2), y3, y4) w2) (fun _ => True) (fun _ _ => ⟨rfl, rfl⟩) ?_ (fun _ _ => h8)
  clear h8
  generalize (jnR N wk (C.map Rw.xs) (K.map Kd.d) xs) = R at *
  generalize (jnR N wk (C.map Rw.xs) (K.map Kd.d) (xs ++ [n])) = R2 at *
  repeat'
   conv => whnf
   first
    | refine zA ?_ | refine zB ?_ | refine zC ?_ | refine zD ?_ | refine zE ?_ | refine zF ?_ | refine zG ?_ | refine zH ?_ | refine zJ ?_ | refine zI ?_ | refine splT ?_ | refine splF ?_ | refine splNot ?_
    | ((first | refine splIn (fun hc => ?_) (fun hc => ?_) | refine splD (fun hc => ?_) (fun hc => ?_) | refine splE (fun hc => ?_) (fun hc => ?_) | refine splNE (fun hc => ?_) (fun hc => ?_)) <;> first | (exfalso; omega) | (exfalso; dsimp only at hc; omega) | skip)
    | refine Exists.intro (α := List Value) [.slice (some y3) N.length y4] ⟨⟨rfl, fun w' hw' => jy_row hw'.1.2 hR1⟩, ?_⟩
    | refine Exists.intro (α := List Value) [.slice (some z3) N.length z4] ⟨⟨rfl, fun w' hw' => jy_row hw'.2 hR2⟩, ?_⟩
  all_goals first | (exfalso; omega) | skip
  refine loopE (fun k : Nat => [(1, .v (.slice o K.length c)), (2, .v (.slice go xs.length gc)), (4, .ptr 0 0), (10, .v (.slice (some y1) 1 y2)), (12, .v (.slice (some z1) 1 z2)), (14, .v (iv k))]) (fun _ => [(0, .cells [.v (.slice no N.length nc), .v (iv wk), .v (.slice co C.length cc)] 56)]) (fun k => k ≤ N.length) (fun k => N.length - k) 0 (Nat.zero_le _) ⟨rfl, rfl, rfl, rfl, rfl, rfl, trivial⟩ ⟨rfl, trivial⟩ (fun _ => ⟨rfl, rfl⟩) ?_
  intro k hk
  rcases Nat.lt_or_ge k N.length with hkl | hkl
  · obtain ⟨v, hv, u, hu, b1, b2, b3⟩ := hat1 k hkl
    repeat'
     conv => whnf
     first
      | refine zA ?_ | refine zB ?_ | refine zC ?_ | refine zD ?_ | refine zE ?_ | refine zF ?_ | refine zG ?_ | refine zH ?_ | refine zJ ?_ | refine zI ?_ | refine splT ?_ | refine splF ?_ | refine splNot ?_
      | ((first | refine splIn (fun hc => ?_) (fun hc => ?_) | refine splD (fun hc => ?_) (fun hc => ?_) | refine splE (fun hc => ?_) (fun hc => ?_) | refine splNE (fun hc => ?_) (fun hc => ?_)) <;> first | (exfalso; omega) | (exfalso; dsimp only at hc; omega) | skip)
      | refine Exists.intro (α := List Value) [.slice (some y3) N.length y4] ⟨⟨rfl, fun w' hw' => jy_row hw'.1.2 hR1⟩, ?_⟩
      | refine Exists.intro (α := List Value) [.slice (some z3) N.length z4] ⟨⟨rfl, fun w' hw' => jy_row hw'.2 hR2⟩, ?_⟩
      | refine Exists.intro (α := List Value) [iv v] ⟨⟨rfl, fun w' hw' => jy_at hw'.1.2 hv⟩, ?_⟩
      | refine Exists.intro (α := List Value) [iv u] ⟨⟨rfl, fun w' hw' => jy_at hw'.2 hu⟩, ?_⟩
    all_goals first | (exfalso; omega) | exact ⟨k + 1, by omega, by omega, Ent.weak rfl ⟨rfl, rfl, rfl, rfl, rfl, rfl, trivial⟩ ⟨rfl, trivial⟩ fun _ h => h⟩
  · skip
    repeat'
     conv => whnf
     first
      | refine zA ?_ | refine zB ?_ | refine zC ?_ | refine zD ?_ | refine zE ?_ | refine zF ?_ | refine zG ?_ | refine zH ?_ | refine zJ ?_ | refine zI ?_ | refine splT ?_ | refine splF ?_ | refine splNot ?_
      | ((first | refine splIn (fun hc => ?_) (fun hc => ?_) | refine splD (fun hc => ?_) (fun hc => ?_) | refine splE (fun hc => ?_) (fun hc => ?_) | refine splNE (fun hc => ?_) (fun hc => ?_)) <;> first | (exfalso; omega) | (exfalso; dsimp only at hc; omega) | skip)
    all_goals first | (exfalso; omega) | exact ⟨rfl, (), trivial, Ent.weak rfl ⟨rfl, rfl, rfl, rfl, trivial⟩ ⟨rfl, trivial⟩ fun _ h => h.1⟩
end Go.Proofs.YtpleibfohjbneaaGreat
