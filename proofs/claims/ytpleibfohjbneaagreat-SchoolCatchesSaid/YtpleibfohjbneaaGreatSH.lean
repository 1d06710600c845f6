/- What a child has, what is left, what it should do, in what it is behind: all subjects; two lists compared: what these functions return. -/
import Derived.Test.YtpleibfohjbneaaGreatSG
namespace Go.Proofs.YtpleibfohjbneaaGreat.Tx
open Go Go.RowKit
set_option linter.unusedSimpArgs false
set_option linter.unusedVariables false
/-- A method's value: the function with its receiver. -/
theorem mkMv {P : Program} {dst : Option Tmp} {ty : TypeId} {pos : String} {after : Array Edge} {gd : Option (Nat × Bool)} {gs : List Nat} {σ : Sg} {K : Ef → Prop} {f : Fn} {x : Operand} {s : SV} (V : Value) (hx : gv σ x = some s) (hV : ∀ β, s.c β = V)
    (hB : efB σ ⟨.v (.func f #[V] #[]), [], [], gs ++ os x, []⟩ = true) (hK : K ⟨.v (.func f #[V] #[]), [], [], gs ++ os x, []⟩) : OpEv P ⟨dst, .makeFunc f #[x] #[], ty, pos, after, gd⟩ gs σ K := by
  refine .mk _ hB (fun k hk => by simp [hk]) rfl (runOK_pure fun β a w hs => ?_) hK
  have e1 := gv_eval hs hx (fun k hk => by simp [hk])
  rw [hV] at e1
  simp only [execOp, Instr.makeFunc, SV.c, Sem.run_bind, Sem.run_pure, Result.andThen_ok, List.map_toArray, List.map_nil, List.map_cons, e1]
end Go.Proofs.YtpleibfohjbneaaGreat.Tx
namespace Go.Proofs.YtpleibfohjbneaaGreat
open Go Tx Go.RowKit
set_option linter.unusedSimpArgs false
set_option linter.unusedVariables false

set_option maxRecDepth 100000 in
theorem ints_ok (A B : List Int) (o p : Option Addr) (c d : Nat) (w : World) (hA : Rd 1 iF (.slice o A.length c) A w) (hB : Rd 1 iF (.slice p B.length d) B w) (hl : A.length ≤ 1000000) (hl2 : B.length ≤ 1000000) :
    Calls Tryz.prog 32 #[.slice o A.length c, .slice p B.length d] w fun e w' => e = .returned (.bool (decide (A = B))) ∧ Below w.heap.size w w' := by
  refine calls_val env mixed Tryz.func32 has32 Tryz.ntmps32 [.slice o A.length c, .slice p B.length d] (by simp) ?_
  rcases Nat.lt_or_ge A.length B.length with hlen | hlen
  · rw [decide_eq_false (fun h => by rw [h] at hlen; omega)]
    repeat'
     conv => whnf
     first
      | refine zA ?_ | refine zB ?_ | refine zC ?_ | refine zD ?_ | refine zE ?_ | refine zF ?_ | refine zG ?_ | refine zH ?_ | refine zJ ?_ | refine zI ?_ | refine splT ?_ | refine splF ?_ | refine splNot ?_
      | ((first | refine splIn (fun hc => ?_) (fun hc => ?_) | refine splD (fun hc => ?_) (fun hc => ?_) | refine splE (fun hc => ?_) (fun hc => ?_) | refine splNE (fun hc => ?_) (fun hc => ?_)) <;> first | (exfalso; omega) | (exfalso; dsimp only at hc; omega) | skip)
    all_goals first | (exfalso; omega) | exact ⟨fun β => rfl, fun w' h => h⟩
  rcases Nat.lt_or_ge B.length A.length with hlen2 | hlen2
  · rw [decide_eq_false (fun h => by rw [h] at hlen2; omega)]
    repeat'
     conv => whnf
     first
      | refine zA ?_ | refine zB ?_ | refine zC ?_ | refine zD ?_ | refine zE ?_ | refine zF ?_ | refine zG ?_ | refine zH ?_ | refine zJ ?_ | refine zI ?_ | refine splT ?_ | refine splF ?_ | refine splNot ?_
      | ((first | refine splIn (fun hc => ?_) (fun hc => ?_) | refine splD (fun hc => ?_) (fun hc => ?_) | refine splE (fun hc => ?_) (fun hc => ?_) | refine splNE (fun hc => ?_) (fun hc => ?_)) <;> first | (exfalso; omega) | (exfalso; dsimp only at hc; omega) | skip)
    all_goals first | (exfalso; omega) | exact ⟨fun β => rfl, fun w' h => h⟩
  repeat'
   conv => whnf
   first
    | refine zA ?_ | refine zB ?_ | refine zC ?_ | refine zD ?_ | refine zE ?_ | refine zF ?_ | refine zG ?_ | refine zH ?_ | refine zJ ?_ | refine zI ?_ | refine splT ?_ | refine splF ?_ | refine splNot ?_
    | ((first | refine splIn (fun hc => ?_) (fun hc => ?_) | refine splD (fun hc => ?_) (fun hc => ?_) | refine splE (fun hc => ?_) (fun hc => ?_) | refine splNE (fun hc => ?_) (fun hc => ?_)) <;> first | (exfalso; omega) | (exfalso; dsimp only at hc; omega) | skip)
  all_goals first | (exfalso; omega) | skip
  refine loopE (fun k : Nat => [(0, .v (.slice o A.length c)), (1, .v (.slice p B.length d)), (5, .v (iv k))]) (fun _ => []) (fun k => k ≤ A.length ∧ ∀ j, j < k → A[j]? = B[j]?) (fun k => A.length - k) 0 ⟨Nat.zero_le _, fun j hj => absurd hj (Nat.not_lt_zero _)⟩ ⟨rfl, rfl, rfl, trivial⟩ trivial (fun _ => ⟨rfl, rfl⟩) ?_
  intro k ⟨hk, hall⟩
  rcases Nat.lt_or_ge k A.length with hkl | hkl
  · obtain ⟨x, hx⟩ : ∃ b, A[k]? = some b := ⟨_, List.getElem?_eq_getElem hkl⟩
    obtain ⟨y, hy⟩ : ∃ b, B[k]? = some b := ⟨_, List.getElem?_eq_getElem (by omega)⟩
    obtain ⟨_, ad, rfl, _⟩ := hA.ptr (by omega)
    obtain ⟨_, ad2, rfl, _⟩ := hB.ptr (by omega)
    have e0 := fun (w' : World) hw' => rd_ati (hA.below (w' := w') hw') hx
    have e1 := fun (w' : World) hw' => rd_ati (hB.below (w' := w') hw') hy
    by_cases hxy : x = y
    · subst hxy
      repeat'
       conv => whnf
       first
        | refine zA ?_ | refine zB ?_ | refine zC ?_ | refine zD ?_ | refine zE ?_ | refine zF ?_ | refine zG ?_ | refine zH ?_ | refine zJ ?_ | refine zI ?_ | refine splT ?_ | refine splF ?_ | refine splNot ?_
        | ((first | refine splIn (fun hc => ?_) (fun hc => ?_) | refine splD (fun hc => ?_) (fun hc => ?_) | refine splE (fun hc => ?_) (fun hc => ?_) | refine splNE (fun hc => ?_) (fun hc => ?_)) <;> first | (exfalso; omega) | (exfalso; dsimp only at hc; omega) | skip)
        | refine Exists.intro (α := List Value) [iv x] ⟨⟨rfl, fun w' hw' => e0 w' hw'⟩, ?_⟩
        | refine Exists.intro (α := List Value) [iv x] ⟨⟨rfl, fun w' hw' => e1 w' hw'⟩, ?_⟩
      all_goals first | (exfalso; omega) | exact ⟨k + 1, ⟨by omega, fun j hj => by rcases Nat.lt_succ_iff_lt_or_eq.1 hj with h | rfl; exact hall j h; rw [hx, hy]⟩, by omega, Ent.weak rfl ⟨rfl, rfl, rfl, trivial⟩ trivial fun _ h => h⟩
    · rw [decide_eq_false (fun h => hxy (by subst h; rw [hx] at hy; exact Option.some.inj hy))]
      repeat'
       conv => whnf
       first
        | refine zA ?_ | refine zB ?_ | refine zC ?_ | refine zD ?_ | refine zE ?_ | refine zF ?_ | refine zG ?_ | refine zH ?_ | refine zJ ?_ | refine zI ?_ | refine splT ?_ | refine splF ?_ | refine splNot ?_
        | ((first | refine splIn (fun hc => ?_) (fun hc => ?_) | refine splD (fun hc => ?_) (fun hc => ?_) | refine splE (fun hc => ?_) (fun hc => ?_) | refine splNE (fun hc => ?_) (fun hc => ?_)) <;> first | (exfalso; omega) | (exfalso; dsimp only at hc; omega) | skip)
        | refine Exists.intro (α := List Value) [iv x] ⟨⟨rfl, fun w' hw' => e0 w' hw'⟩, ?_⟩
        | refine Exists.intro (α := List Value) [iv y] ⟨⟨rfl, fun w' hw' => e1 w' hw'⟩, ?_⟩
      all_goals first | (exfalso; omega) | exact ⟨fun β => rfl, fun w' h => h⟩
  · rw [decide_eq_true (show A = B from List.ext_getElem? fun j => by
      rcases Nat.lt_or_ge j k with h | h
      · exact hall j h
      · rw [List.getElem?_eq_none (by omega), List.getElem?_eq_none (by omega)])]
    repeat'
     conv => whnf
     first
      | refine zA ?_ | refine zB ?_ | refine zC ?_ | refine zD ?_ | refine zE ?_ | refine zF ?_ | refine zG ?_ | refine zH ?_ | refine zJ ?_ | refine zI ?_ | refine splT ?_ | refine splF ?_ | refine splNot ?_
      | ((first | refine splIn (fun hc => ?_) (fun hc => ?_) | refine splD (fun hc => ?_) (fun hc => ?_) | refine splE (fun hc => ?_) (fun hc => ?_) | refine splNE (fun hc => ?_) (fun hc => ?_)) <;> first | (exfalso; omega) | (exfalso; dsimp only at hc; omega) | skip)
    exact ⟨fun β => rfl, fun w' h => h⟩

theorem stS' {L : List Int} {k : Nat} (hk : k < L.length) (n : Int) : (k : Int).toNat * 1 + [iv n].length ≤ (L.flatMap iF).length := by
  rw [lenF, Int.toNat_natCast, Nat.mul_one]; exact hk
theorem stE' {L : List Int} {k : Nat} (hk : k < L.length) (n : Int) : (L.flatMap iF).take ((k : Int).toNat * ti3.size) ++ [iv n] ++ (L.flatMap iF).drop ((k : Int).toNat * ti3.size + [iv n].length) = (L.set k n).flatMap iF := by
  rw [show ti3.size = 1 from rfl, Int.toNat_natCast, Nat.mul_one, ← setF hk, List.append_assoc]; rfl
theorem take_set {D : List Int} {k : Nat} {g : Nat → Int} (hk : k < D.length) (h : D.take k = (List.range k).map g) : (D.set k (g k)).take (k + 1) = (List.range (k + 1)).map g := by
  rw [List.take_add_one, List.take_set_of_le (Nat.le_refl _), h, List.getElem?_set_self hk, List.range_succ, List.map_append]; rfl

set_option maxHeartbeats 1000000 in
set_option maxRecDepth 100000 in
theorem each79_own (no : Option Addr) (nc : Nat) (N : List Int) (wk : Int) (co : Option Addr) (cn cc : Nat) (s : Value) (g : Nat → Int) (w : World) (hN : 1 ≤ N.length ∧ N.length ≤ 6)
    (hg : ∀ j, j < N.length → ∀ w', Below w.heap.size w w' → Calls Tryz.prog 79 #[.agg #[.slice no N.length nc, iv wk, .slice co cn cc, s], iv j] w' fun e w2 => e = .returned (iv (g j)) ∧ Below w'.heap.size w' w2) :
    Calls Tryz.prog 78 #[.agg #[.slice no N.length nc, iv wk, .slice co cn cc, s], .func (.func 79) #[.agg #[.slice no N.length nc, iv wk, .slice co cn cc, s]] #[]] w fun e w' => ∃ b d, e = .returned (.slice (some ⟨b, 0, none⟩) N.length d) ∧ w.heap.size ≤ b ∧ Below w.heap.size w w' ∧
      w'.ownsRow 0 3 1 (.slice (some ⟨b, 0, none⟩) N.length d) N.length (((List.range N.length).map g).flatMap iF) := by
  refine calls_fam2 env mixed Tryz.func78 has78 Tryz.ntmps78 [.agg #[.slice no N.length nc, iv wk, .slice co cn cc, s], .func (.func 79) #[.agg #[.slice no N.length nc, iv wk, .slice co cn cc, s]] #[]] (by simp) ?_
  repeat'
   conv => whnf
   first
    | refine zA ?_ | refine zB ?_ | refine zC ?_ | refine zD ?_ | refine zE ?_ | refine zF ?_ | refine zG ?_ | refine zH ?_ | refine zJ ?_ | refine zI ?_ | refine splT ?_ | refine splF ?_ | refine splNot ?_
    | ((first | refine splIn (fun hc => ?_) (fun hc => ?_) | refine splD (fun hc => ?_) (fun hc => ?_) | refine splE (fun hc => ?_) (fun hc => ?_) | refine splNE (fun hc => ?_) (fun hc => ?_)) <;> first | (exfalso; omega) | (exfalso; dsimp only at hc; omega) | skip)
    | refine mkO env 1 N.length ((List.replicate N.length (0 : Int)).flatMap iF) rfl rfl rfl (by decide) rfl (by omega) (by decide) (by rw [List.flatMap_replicate]; rfl) rfl ?_
  refine loopN2 3 (fun (k : Nat) (D : List Int) => [(1, .v (.func (.func 79) #[.agg #[.slice no N.length nc, iv wk, .slice co cn cc, s]] #[])), (5, .os 1 2 N.length), (13, .v (iv N.length)), (14, .v (iv k))])
    (fun k D => [(1, .own 2 N.length 1 (D.flatMap iF) 3)])
    (fun k D => k ≤ N.length ∧ D.length = N.length ∧ D.take k = (List.range k).map g) (fun k _ => N.length - k) 0 (List.replicate N.length 0)
    ⟨Nat.zero_le _, by simp, rfl⟩ ⟨rfl, rfl, rfl, rfl, trivial⟩ ⟨rfl, trivial⟩ (fun _ _ _ => ⟨rfl, rfl⟩) ?_
  intro k D ⟨hk, hD, hDk⟩
  rcases Nat.lt_or_ge k N.length with hkl | hkl
  · have hkD : k < D.length := by omega
    have ht := take_set hkD hDk
    repeat'
     conv => whnf
     first
      | refine zA ?_ | refine zB ?_ | refine zC ?_ | refine zD ?_ | refine zE ?_ | refine zF ?_ | refine zG ?_ | refine zH ?_ | refine zJ ?_ | refine zI ?_ | refine splT ?_ | refine splF ?_ | refine splNot ?_
      | ((first | refine splIn (fun hc => ?_) (fun hc => ?_) | refine splD (fun hc => ?_) (fun hc => ?_) | refine splE (fun hc => ?_) (fun hc => ?_) | refine splNE (fun hc => ?_) (fun hc => ?_)) <;> first | (exfalso; omega) | (exfalso; dsimp only at hc; omega) | skip)
      | ((with_reducible show CallEv _ _ 79 _ _ _ _ _); refine callE (k := 79) (fun β w' hbw => hg k hkl _ hbw) ?_)
      | (refine And.intro (a := _ + _ ≤ List.length _) (stS' hkD (g k)) ?_; rw [stE' hkD (g k)])
    all_goals first | (exfalso; omega) | exact ⟨k + 1, D.set k (g k), ⟨by omega, by rw [List.length_set]; exact hD, ht⟩, by omega, Ent.weak rfl ⟨rfl, rfl, rfl, rfl, trivial⟩ ⟨rfl, trivial⟩ fun _ h => h⟩
  · have hkn : k = N.length := by omega
    subst hkn
    rw [List.take_of_length_le (by omega)] at hDk
    subst hDk
    repeat'
     conv => whnf
     first
      | refine zA ?_ | refine zB ?_ | refine zC ?_ | refine zD ?_ | refine zE ?_ | refine zF ?_ | refine zG ?_ | refine zH ?_ | refine zJ ?_ | refine zI ?_ | refine splT ?_ | refine splF ?_ | refine splNot ?_
      | ((first | refine splIn (fun hc => ?_) (fun hc => ?_) | refine splD (fun hc => ?_) (fun hc => ?_) | refine splE (fun hc => ?_) (fun hc => ?_) | refine splNE (fun hc => ?_) (fun hc => ?_)) <;> first | (exfalso; omega) | (exfalso; dsimp only at hc; omega) | skip)
    all_goals first | (exfalso; omega) | exact ⟨fun w' h => h, fun β w' hB hB2 hblk => ⟨β 1, β 2, rfl, (hblk 1 _ rfl rfl).1, hB2, (hblk 1 _ rfl rfl).2⟩⟩

set_option maxHeartbeats 1000000 in
set_option maxRecDepth 100000 in
theorem each80_own (no : Option Addr) (nc : Nat) (N : List Int) (wk : Int) (co : Option Addr) (cn cc : Nat) (s : Value) (g : Nat → Int) (w : World) (hN : 1 ≤ N.length ∧ N.length ≤ 6)
    (hg : ∀ j, j < N.length → ∀ w', Below w.heap.size w w' → Calls Tryz.prog 80 #[.agg #[.slice no N.length nc, iv wk, .slice co cn cc, s], iv j] w' fun e w2 => e = .returned (iv (g j)) ∧ Below w'.heap.size w' w2) :
    Calls Tryz.prog 78 #[.agg #[.slice no N.length nc, iv wk, .slice co cn cc, s], .func (.func 80) #[.agg #[.slice no N.length nc, iv wk, .slice co cn cc, s]] #[]] w fun e w' => ∃ b d, e = .returned (.slice (some ⟨b, 0, none⟩) N.length d) ∧ w.heap.size ≤ b ∧ Below w.heap.size w w' ∧
      w'.ownsRow 0 3 1 (.slice (some ⟨b, 0, none⟩) N.length d) N.length (((List.range N.length).map g).flatMap iF) := by
  refine calls_fam2 env mixed Tryz.func78 has78 Tryz.ntmps78 [.agg #[.slice no N.length nc, iv wk, .slice co cn cc, s], .func (.func 80) #[.agg #[.slice no N.length nc, iv wk, .slice co cn cc, s]] #[]] (by simp) ?_
  repeat'
   conv => whnf
   first
    | refine zA ?_ | refine zB ?_ | refine zC ?_ | refine zD ?_ | refine zE ?_ | refine zF ?_ | refine zG ?_ | refine zH ?_ | refine zJ ?_ | refine zI ?_ | refine splT ?_ | refine splF ?_ | refine splNot ?_
    | ((first | refine splIn (fun hc => ?_) (fun hc => ?_) | refine splD (fun hc => ?_) (fun hc => ?_) | refine splE (fun hc => ?_) (fun hc => ?_) | refine splNE (fun hc => ?_) (fun hc => ?_)) <;> first | (exfalso; omega) | (exfalso; dsimp only at hc; omega) | skip)
    | refine mkO env 1 N.length ((List.replicate N.length (0 : Int)).flatMap iF) rfl rfl rfl (by decide) rfl (by omega) (by decide) (by rw [List.flatMap_replicate]; rfl) rfl ?_
  refine loopN2 3 (fun (k : Nat) (D : List Int) => [(1, .v (.func (.func 80) #[.agg #[.slice no N.length nc, iv wk, .slice co cn cc, s]] #[])), (5, .os 1 2 N.length), (13, .v (iv N.length)), (14, .v (iv k))])
    (fun k D => [(1, .own 2 N.length 1 (D.flatMap iF) 3)])
    (fun k D => k ≤ N.length ∧ D.length = N.length ∧ D.take k = (List.range k).map g) (fun k _ => N.length - k) 0 (List.replicate N.length 0)
    ⟨Nat.zero_le _, by simp, rfl⟩ ⟨rfl, rfl, rfl, rfl, trivial⟩ ⟨rfl, trivial⟩ (fun _ _ _ => ⟨rfl, rfl⟩) ?_
  intro k D ⟨hk, hD, hDk⟩
  rcases Nat.lt_or_ge k N.length with hkl | hkl
  · have hkD : k < D.length := by omega
    have ht := take_set hkD hDk
    repeat'
     conv => whnf
     first
      | refine zA ?_ | refine zB ?_ | refine zC ?_ | refine zD ?_ | refine zE ?_ | refine zF ?_ | refine zG ?_ | refine zH ?_ | refine zJ ?_ | refine zI ?_ | refine splT ?_ | refine splF ?_ | refine splNot ?_
      | ((first | refine splIn (fun hc => ?_) (fun hc => ?_) | refine splD (fun hc => ?_) (fun hc => ?_) | refine splE (fun hc => ?_) (fun hc => ?_) | refine splNE (fun hc => ?_) (fun hc => ?_)) <;> first | (exfalso; omega) | (exfalso; dsimp only at hc; omega) | skip)
      | ((with_reducible show CallEv _ _ 80 _ _ _ _ _); refine callE (k := 80) (fun β w' hbw => hg k hkl _ hbw) ?_)
      | (refine And.intro (a := _ + _ ≤ List.length _) (stS' hkD (g k)) ?_; rw [stE' hkD (g k)])
    all_goals first | (exfalso; omega) | exact ⟨k + 1, D.set k (g k), ⟨by omega, by rw [List.length_set]; exact hD, ht⟩, by omega, Ent.weak rfl ⟨rfl, rfl, rfl, rfl, trivial⟩ ⟨rfl, trivial⟩ fun _ h => h⟩
  · have hkn : k = N.length := by omega
    subst hkn
    rw [List.take_of_length_le (by omega)] at hDk
    subst hDk
    repeat'
     conv => whnf
     first
      | refine zA ?_ | refine zB ?_ | refine zC ?_ | refine zD ?_ | refine zE ?_ | refine zF ?_ | refine zG ?_ | refine zH ?_ | refine zJ ?_ | refine zI ?_ | refine splT ?_ | refine splF ?_ | refine splNot ?_
      | ((first | refine splIn (fun hc => ?_) (fun hc => ?_) | refine splD (fun hc => ?_) (fun hc => ?_) | refine splE (fun hc => ?_) (fun hc => ?_) | refine splNE (fun hc => ?_) (fun hc => ?_)) <;> first | (exfalso; omega) | (exfalso; dsimp only at hc; omega) | skip)
    all_goals first | (exfalso; omega) | exact ⟨fun w' h => h, fun β w' hB hB2 hblk => ⟨β 1, β 2, rfl, (hblk 1 _ rfl rfl).1, hB2, (hblk 1 _ rfl rfl).2⟩⟩

set_option maxHeartbeats 1000000 in
set_option maxRecDepth 100000 in
theorem each81_own (no : Option Addr) (nc : Nat) (N : List Int) (wk : Int) (co : Option Addr) (cn cc : Nat) (s : Value) (g : Nat → Int) (w : World) (hN : 1 ≤ N.length ∧ N.length ≤ 6)
    (hg : ∀ j, j < N.length → ∀ w', Below w.heap.size w w' → Calls Tryz.prog 81 #[.agg #[.slice no N.length nc, iv wk, .slice co cn cc, s], iv j] w' fun e w2 => e = .returned (iv (g j)) ∧ Below w'.heap.size w' w2) :
    Calls Tryz.prog 78 #[.agg #[.slice no N.length nc, iv wk, .slice co cn cc, s], .func (.func 81) #[.agg #[.slice no N.length nc, iv wk, .slice co cn cc, s]] #[]] w fun e w' => ∃ b d, e = .returned (.slice (some ⟨b, 0, none⟩) N.length d) ∧ w.heap.size ≤ b ∧ Below w.heap.size w w' ∧
      w'.ownsRow 0 3 1 (.slice (some ⟨b, 0, none⟩) N.length d) N.length (((List.range N.length).map g).flatMap iF) := by
  refine calls_fam2 env mixed Tryz.func78 has78 Tryz.ntmps78 [.agg #[.slice no N.length nc, iv wk, .slice co cn cc, s], .func (.func 81) #[.agg #[.slice no N.length nc, iv wk, .slice co cn cc, s]] #[]] (by simp) ?_
  repeat'
   conv => whnf
   first
    | refine zA ?_ | refine zB ?_ | refine zC ?_ | refine zD ?_ | refine zE ?_ | refine zF ?_ | refine zG ?_ | refine zH ?_ | refine zJ ?_ | refine zI ?_ | refine splT ?_ | refine splF ?_ | refine splNot ?_
    | ((first | refine splIn (fun hc => ?_) (fun hc => ?_) | refine splD (fun hc => ?_) (fun hc => ?_) | refine splE (fun hc => ?_) (fun hc => ?_) | refine splNE (fun hc => ?_) (fun hc => ?_)) <;> first | (exfalso; omega) | (exfalso; dsimp only at hc; omega) | skip)
    | refine mkO env 1 N.length ((List.replicate N.length (0 : Int)).flatMap iF) rfl rfl rfl (by decide) rfl (by omega) (by decide) (by rw [List.flatMap_replicate]; rfl) rfl ?_
  refine loopN2 3 (fun (k : Nat) (D : List Int) => [(1, .v (.func (.func 81) #[.agg #[.slice no N.length nc, iv wk, .slice co cn cc, s]] #[])), (5, .os 1 2 N.length), (13, .v (iv N.length)), (14, .v (iv k))])
    (fun k D => [(1, .own 2 N.length 1 (D.flatMap iF) 3)])
    (fun k D => k ≤ N.length ∧ D.length = N.length ∧ D.take k = (List.range k).map g) (fun k _ => N.length - k) 0 (List.replicate N.length 0)
    ⟨Nat.zero_le _, by simp, rfl⟩ ⟨rfl, rfl, rfl, rfl, trivial⟩ ⟨rfl, trivial⟩ (fun _ _ _ => ⟨rfl, rfl⟩) ?_
  intro k D ⟨hk, hD, hDk⟩
  rcases Nat.lt_or_ge k N.length with hkl | hkl
  · have hkD : k < D.length := by omega
    have ht := take_set hkD hDk
    repeat'
     conv => whnf
     first
      | refine zA ?_ | refine zB ?_ | refine zC ?_ | refine zD ?_ | refine zE ?_ | refine zF ?_ | refine zG ?_ | refine zH ?_ | refine zJ ?_ | refine zI ?_ | refine splT ?_ | refine splF ?_ | refine splNot ?_
      | ((first | refine splIn (fun hc => ?_) (fun hc => ?_) | refine splD (fun hc => ?_) (fun hc => ?_) | refine splE (fun hc => ?_) (fun hc => ?_) | refine splNE (fun hc => ?_) (fun hc => ?_)) <;> first | (exfalso; omega) | (exfalso; dsimp only at hc; omega) | skip)
      | ((with_reducible show CallEv _ _ 81 _ _ _ _ _); refine callE (k := 81) (fun β w' hbw => hg k hkl _ hbw) ?_)
      | (refine And.intro (a := _ + _ ≤ List.length _) (stS' hkD (g k)) ?_; rw [stE' hkD (g k)])
    all_goals first | (exfalso; omega) | exact ⟨k + 1, D.set k (g k), ⟨by omega, by rw [List.length_set]; exact hD, ht⟩, by omega, Ent.weak rfl ⟨rfl, rfl, rfl, rfl, trivial⟩ ⟨rfl, trivial⟩ fun _ h => h⟩
  · have hkn : k = N.length := by omega
    subst hkn
    rw [List.take_of_length_le (by omega)] at hDk
    subst hDk
    repeat'
     conv => whnf
     first
      | refine zA ?_ | refine zB ?_ | refine zC ?_ | refine zD ?_ | refine zE ?_ | refine zF ?_ | refine zG ?_ | refine zH ?_ | refine zJ ?_ | refine zI ?_ | refine splT ?_ | refine splF ?_ | refine splNot ?_
      | ((first | refine splIn (fun hc => ?_) (fun hc => ?_) | refine splD (fun hc => ?_) (fun hc => ?_) | refine splE (fun hc => ?_) (fun hc => ?_) | refine splNE (fun hc => ?_) (fun hc => ?_)) <;> first | (exfalso; omega) | (exfalso; dsimp only at hc; omega) | skip)
    all_goals first | (exfalso; omega) | exact ⟨fun w' h => h, fun β w' hB hB2 hblk => ⟨β 1, β 2, rfl, (hblk 1 _ rfl rfl).1, hB2, (hblk 1 _ rfl rfl).2⟩⟩
end Go.Proofs.YtpleibfohjbneaaGreat
