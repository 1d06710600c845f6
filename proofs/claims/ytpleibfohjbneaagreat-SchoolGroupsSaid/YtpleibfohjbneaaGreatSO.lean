/- SchoolGroups: the guard; then, where nothing is wrong, what is left of the law. -/
import Derived.Test.YtpleibfohjbneaaGreatSN
namespace Go.Proofs.YtpleibfohjbneaaGreat
open Go Tx Go.RowKit
set_option linter.unusedSimpArgs false
set_option linter.unusedVariables false

theorem rdc {α : Type} {sz : Nat} {f : α → List Value} (hf : ∀ x, (f x).length = sz) {bs : List α} {w : World} {b : Nat} {ty : TypeId} {c n : Nat} {l : List Value} (hl : l = bs.flatMap f) (hn : n = bs.length) (h : w.heap[b]? = some (.cells l.toArray ty (0, 0))) : Rd sz f (.slice (some ⟨b, 0, none⟩) n c) bs w := Rd.of_cells hf hn (hl ▸ h)
/-- The state behind the guard. -/
abbrev gS4 (no : Option Addr) (nc : Nat) (N : List Int) (wk : Int) (co : Option Addr) (cc : Nat) (C : List Rw) (o : Option Addr) (c : Nat) (K : List Kd) (go : Option Addr) (gc : Nat) (xs : List Int) (n : Int) (w : World) : Sg :=
  ⟨204, [(1, .v (.slice o K.length c)), (2, .v (.slice go xs.length gc)), (3, .v (iv n)), (4, .ptr 0 0)], [(0, .cells [.v (.slice no N.length nc), .v (iv wk), .v (.slice co C.length cc)] 56)], 1, Below w.heap.size w, z0⟩

set_option maxHeartbeats 4000000 in
set_option maxRecDepth 100000 in
theorem Gr_bad (no : Option Addr) (nc : Nat) (N : List Int) (wk : Int) (co : Option Addr) (cc : Nat) (C : List Rw) (o : Option Addr) (c : Nat) (K : List Kd) (go : Option Addr) (gc : Nat) (xs : List Int) (n : Int) (w : World) (hX : CrX ⟨no, nc, N, wk, co, cc, C⟩ w) (hb : ¬ (crOk N wk (C.map Rw.xs) = true ∧ K.length ≤ 40 ∧ xs.length ≤ 45)) :
    Calls Tryz.prog 11 #[.agg #[.slice no N.length nc, iv wk, .slice co C.length cc], .slice o K.length c, .slice go xs.length gc, iv n] w fun e w' => e = .returned (.bool true) ∧ Below w.heap.size w w' := by
  have h26 := fun w' hb => RightCourseX_ok ⟨no, nc, N, wk, co, cc, C⟩ w' (hX.below hb)
  dsimp only at h26
  refine calls_val env mixed Tryz.func11 has11 Tryz.ntmps11 [.agg #[.slice no N.length nc, iv wk, .slice co C.length cc], .slice o K.length c, .slice go xs.length gc, iv n] (by simp) ?_
  cases hc : crOk N wk (C.map Rw.xs) with
  | false =>
    rw [hc] at h26
    repeat'
     conv => whnf
     first
      | refine zA ?_ | refine zB ?_ | refine zC ?_ | refine zD ?_ | refine zE ?_ | refine zF ?_ | refine zG ?_ | refine zH ?_ | refine zJ ?_ | refine zI ?_ | refine splT ?_ | refine splF ?_ | refine splNot ?_
      | ((first | refine splIn (fun hc => ?_) (fun hc => ?_) | refine splD (fun hc => ?_) (fun hc => ?_) | refine splE (fun hc => ?_) (fun hc => ?_) | refine splNE (fun hc => ?_) (fun hc => ?_)) <;> first | (exfalso; omega) | (exfalso; dsimp only at hc; omega) | skip)
      | ((with_reducible show CallEv _ _ 26 _ _ _ _ _); refine callE (k := 26) (fun β w' hbw => h26 w' hbw) ?_)
      | ((with_reducible show CallEv _ _ 16 _ _ _ _ _); refine callE (k := 16) (fun β w' hbw => awake_calls w') ?_)
    all_goals first | (exfalso; omega) | exact ⟨fun β => rfl, fun w' h => h⟩
  | true =>
    rw [hc] at h26 hb
    have hb2 : ¬ (K.length ≤ 40 ∧ xs.length ≤ 45) := fun h => hb ⟨rfl, h⟩
    clear hb
    repeat'
     conv => whnf
     first
      | refine zA ?_ | refine zB ?_ | refine zC ?_ | refine zD ?_ | refine zE ?_ | refine zF ?_ | refine zG ?_ | refine zH ?_ | refine zJ ?_ | refine zI ?_ | refine splT ?_ | refine splF ?_ | refine splNot ?_
      | ((first | refine splIn (fun hc => ?_) (fun hc => ?_) | refine splD (fun hc => ?_) (fun hc => ?_) | refine splE (fun hc => ?_) (fun hc => ?_) | refine splNE (fun hc => ?_) (fun hc => ?_)) <;> first | (exfalso; omega) | (exfalso; dsimp only at hc; omega) | skip)
      | ((with_reducible show CallEv _ _ 26 _ _ _ _ _); refine callE (k := 26) (fun β w' hbw => h26 w' hbw) ?_)
      | ((with_reducible show CallEv _ _ 16 _ _ _ _ _); refine callE (k := 16) (fun β w' hbw => awake_calls w') ?_)
    all_goals first | (exfalso; omega) | exact ⟨fun β => rfl, fun w' h => h⟩
theorem own_as {m : Nat} {L : List Int} {X : List Value} {a b : Nat} {w : World} (hX : X = L.flatMap iF) (hn : m = L.length) (h : w.ownsRow 0 3 1 (.slice (some ⟨a, 0, none⟩) m b) m X) : Rd 1 iF (.slice (some ⟨a, 0, none⟩) L.length b) L w := by
  subst hX hn
  exact own_now rfl h

set_option maxHeartbeats 8000000 in
set_option maxRecDepth 100000 in
theorem Gr_top0 (no : Option Addr) (nc : Nat) (N : List Int) (wk : Int) (co : Option Addr) (cc : Nat) (C : List Rw) (o : Option Addr) (c : Nat) (K : List Kd) (go : Option Addr) (gc : Nat) (xs : List Int) (n : Int) (w : World) (hX : CrIn ⟨no, nc, N, wk, co, cc, C⟩ w) (hK : KdX o c K w) (hg : Rd 1 iF (.slice go ([] : List Int).length gc) ([] : List Int) w) (hc : crOk N wk (C.map Rw.xs) = true) (hk40 : K.length ≤ 40) (hx45 : ([] : List Int).length ≤ 45)
    (h4 : KdIn o c K w → jfE N.length (C.map Rw.xs).length wk (K.map Kd.d) [n] = 0 → VC Tryz.prog (rest 4 body11) (gS4 no nc N wk co cc C o c K go gc [] n w) (endΦ env Tryz.f11 fun s σ => (∀ β, s.c β = .bool true) ∧ ∀ w', σ.h w' → Below w.heap.size w w')) :
    Calls Tryz.prog 11 #[.agg #[.slice no N.length nc, iv wk, .slice co C.length cc], .slice o K.length c, .slice go ([] : List Int).length gc, iv n] w fun e w' => e = .returned (.bool true) ∧ Below w.heap.size w w' := by
  have h26 := fun w' hb => RightCourse_ok ⟨no, nc, N, wk, co, cc, C⟩ w' (hX.below hb)
  have h27 := fun (k : Kd) (hk : k ∈ K) w' hb => short_ok k.o k.c k.S w' ((hK.s k hk).below hb)
  have hKI : (∀ k ∈ K, shB k.d = true) → KdIn o c K w := fun h => ⟨hK.k, fun k hk => (hK.s k hk).sin (h k hk), by omega⟩
  have h46 := fun (hKd : KdIn o c K w) (ad : Addr) (ro : Option Addr) (rc : Nat) w' (hb : Below w.heap.size w w') (hG : Rd 1 Rw.cs (.slice (some ad) 1 1) [(⟨ro, rc, [n]⟩ : Rw)] w') (hr : Rd 1 iF (.slice ro [n].length rc) [n] w') => JoinFault_ok ⟨no, nc, N, wk, co, cc, C⟩ o c K (some ad) 1 ⟨ro, rc, [n]⟩ w' (hX.below hb) (hKd.below hb) hG hr (by simp at hx45 ⊢ <;> omega)
  have h47 := fun w2 hb => list_none go gc w2 (hg.below hb)
  have hKr := hK.k
  dsimp only at h26 h27 h46 hc
  rw [hc] at h26
  refine calls_valV env mixed Tryz.func11 has11 Tryz.ntmps11 [.agg #[.slice no N.length nc, iv wk, .slice co C.length cc], .slice o K.length c, .slice go ([] : List Int).length gc, iv n] (by simp) ?_
  rw [show ([] : List Int).length = 0 from rfl] at *
  skip
  refine VC.cutH env mixed 4 1 (fun _ : Unit => [(1, .v (.slice o K.length c)), (2, .v (.slice go 0 gc)), (3, .v (iv n)), (4, .ptr 0 0)]) (fun _ => [(0, .cells [.v (.slice no N.length nc), .v (iv wk), .v (.slice co C.length cc)] 56)]) (fun _ => Below w.heap.size w) (fun _ => KdIn o c K w ∧ jfE N.length (C.map Rw.xs).length wk (K.map Kd.d) [n] = 0) (fun _ _ => ⟨rfl, rfl⟩) ?_ (fun _ hp => h4 hp.1 hp.2)
  clear h4
  repeat'
   conv => whnf
   first
    | refine zA ?_ | refine zB ?_ | refine zC ?_ | refine zD ?_ | refine zE ?_ | refine zF ?_ | refine zG ?_ | refine zH ?_ | refine zJ ?_ | refine zI ?_ | refine splT ?_ | refine splF ?_ | refine splNot ?_
    | ((first | refine splIn (fun hc => ?_) (fun hc => ?_) | refine splD (fun hc => ?_) (fun hc => ?_) | refine splE (fun hc => ?_) (fun hc => ?_) | refine splNE (fun hc => ?_) (fun hc => ?_)) <;> first | (exfalso; omega) | (exfalso; dsimp only at hc; omega) | skip)
    | ((with_reducible show CallEv _ _ 26 _ _ _ _ _); refine callE (k := 26) (fun β w' hbw => h26 w' hbw) ?_)
    | ((with_reducible show CallEv _ _ 16 _ _ _ _ _); refine callE (k := 16) (fun β w' hbw => awake_calls w') ?_)
  all_goals first | (exfalso; omega) | skip
  refine loopE (fun k : Nat => [(1, .v (.slice o K.length c)), (2, .v (.slice go 0 gc)), (3, .v (iv n)), (4, .ptr 0 0), (9, .v (iv k))]) (fun _ => [(0, .cells [.v (.slice no N.length nc), .v (iv wk), .v (.slice co C.length cc)] 56)]) (fun k => k ≤ K.length ∧ ∀ i q, i < k → K[i]? = some q → shB q.d = true) (fun k => K.length - k) 0 ⟨Nat.zero_le _, fun i q h => by omega⟩ ⟨rfl, rfl, rfl, rfl, rfl, trivial⟩ ⟨rfl, trivial⟩ (fun _ => ⟨rfl, rfl⟩) ?_
  intro k ⟨hk, hall⟩
  rcases Nat.lt_or_ge k K.length with hkl2 | hkl2
  · obtain ⟨⟨ko, kc, S⟩, hx⟩ : ∃ b, K[k]? = some b := ⟨_, List.getElem?_eq_getElem hkl2⟩
    obtain ⟨_, ad, rfl, _⟩ := hKr.ptr (by omega)
    have e0 := fun (w' : World) hw' => rd_ati (hKr.below (w' := w') hw') hx
    have hs := h27 _ (List.mem_of_getElem? hx)
    dsimp only at hs
    cases hz : shB (S.map Sy.d) with
    | true =>
      rw [hz] at hs
      repeat'
       conv => whnf
       first
        | refine zA ?_ | refine zB ?_ | refine zC ?_ | refine zD ?_ | refine zE ?_ | refine zF ?_ | refine zG ?_ | refine zH ?_ | refine zJ ?_ | refine zI ?_ | refine splT ?_ | refine splF ?_ | refine splNot ?_
        | ((first | refine splIn (fun hc => ?_) (fun hc => ?_) | refine splD (fun hc => ?_) (fun hc => ?_) | refine splE (fun hc => ?_) (fun hc => ?_) | refine splNE (fun hc => ?_) (fun hc => ?_)) <;> first | (exfalso; omega) | (exfalso; dsimp only at hc; omega) | skip)
        | refine Exists.intro (α := List Value) [.slice ko S.length kc] ⟨⟨rfl, fun w' hw' => e0 w' hw'⟩, ?_⟩
        | ((with_reducible show CallEv _ _ 27 _ _ _ _ _); refine callE (k := 27) (fun β w' hbw => hs w' hbw) ?_)
      all_goals first | (exfalso; omega) | exact ⟨k + 1, ⟨by omega, fun i q hi hq => (Nat.lt_or_ge i k).elim (fun h => hall i q h hq) fun h => by
        obtain rfl : i = k := by omega
        rw [hx, Option.some.injEq] at hq; subst hq; exact hz⟩, by omega, Ent.weak rfl ⟨rfl, rfl, rfl, rfl, rfl, trivial⟩ ⟨rfl, trivial⟩ fun _ h => h⟩
    | false =>
      rw [hz] at hs
      repeat'
       conv => whnf
       first
        | refine zA ?_ | refine zB ?_ | refine zC ?_ | refine zD ?_ | refine zE ?_ | refine zF ?_ | refine zG ?_ | refine zH ?_ | refine zJ ?_ | refine zI ?_ | refine splT ?_ | refine splF ?_ | refine splNot ?_
        | ((first | refine splIn (fun hc => ?_) (fun hc => ?_) | refine splD (fun hc => ?_) (fun hc => ?_) | refine splE (fun hc => ?_) (fun hc => ?_) | refine splNE (fun hc => ?_) (fun hc => ?_)) <;> first | (exfalso; omega) | (exfalso; dsimp only at hc; omega) | skip)
        | refine Exists.intro (α := List Value) [.slice ko S.length kc] ⟨⟨rfl, fun w' hw' => e0 w' hw'⟩, ?_⟩
        | ((with_reducible show CallEv _ _ 27 _ _ _ _ _); refine callE (k := 27) (fun β w' hbw => hs w' hbw) ?_)
        | ((with_reducible show CallEv _ _ 16 _ _ _ _ _); refine callE (k := 16) (fun β w' hbw => awake_calls w') ?_)
      all_goals first | (exfalso; omega) | exact ⟨fun β => rfl, fun w' h => h⟩
  have hkk : k = K.length := by omega
  have hKd := hKI fun q hq => by
    obtain ⟨i, hi⟩ := List.mem_iff_getElem?.1 hq
    exact hall i q (by have := (List.getElem?_eq_some_iff.1 hi).1; omega) hi
  clear hall
  have h46 := h46 hKd
  have hmm : (C.map Rw.xs).length = C.length := List.length_map ..
  generalize hE : jfE N.length (C.map Rw.xs).length wk (K.map Kd.d) [n] = E at *
  by_cases hE0 : E = 0
  · subst hE0
    repeat'
     conv => whnf
     first
      | refine zA ?_ | refine zB ?_ | refine zC ?_ | refine zD ?_ | refine zE ?_ | refine zF ?_ | refine zG ?_ | refine zH ?_ | refine zJ ?_ | refine zI ?_ | refine splT ?_ | refine splF ?_ | refine splNot ?_
      | ((first | refine splIn (fun hc => ?_) (fun hc => ?_) | refine splD (fun hc => ?_) (fun hc => ?_) | refine splE (fun hc => ?_) (fun hc => ?_) | refine splNE (fun hc => ?_) (fun hc => ?_)) <;> first | (exfalso; omega) | (exfalso; dsimp only at hc; omega) | skip)
      | ((with_reducible show CallEv _ _ 47 _ _ _ _ _); refine callE (k := 47) (fun β w' hbw => h47 w' hbw) ?_)
      | ((with_reducible show CallEv _ _ 46 _ _ _ _ _); refine callM (k := 46) [4, 2] (fun β w' hbk hbw => h46 ⟨β 4, 0, none⟩ (some ⟨β 2, 0, none⟩) (β 3) w' hbw (rdc (sz := 1) (f := Rw.cs) (fun _ => rfl) rfl rfl (hbk 4 (by simp) _ rfl)) (own_as rfl rfl (hbk 2 (by simp) _ rfl))) ?_)
      | ((with_reducible show CallEv _ _ 16 _ _ _ _ _); refine callE (k := 16) (fun β w' hbw => awake_calls w') ?_)
    all_goals first | (exfalso; omega) | exact ⟨rfl, (), ⟨hKd, rfl⟩, Ent.weak rfl ⟨rfl, rfl, rfl, rfl, trivial⟩ ⟨rfl, trivial⟩ fun _ h => h⟩
  · skip
    repeat'
     conv => whnf
     first
      | refine zA ?_ | refine zB ?_ | refine zC ?_ | refine zD ?_ | refine zE ?_ | refine zF ?_ | refine zG ?_ | refine zH ?_ | refine zJ ?_ | refine zI ?_ | refine splT ?_ | refine splF ?_ | refine splNot ?_
      | ((first | refine splIn (fun hc => ?_) (fun hc => ?_) | refine splD (fun hc => ?_) (fun hc => ?_) | refine splE (fun hc => ?_) (fun hc => ?_) | refine splNE (fun hc => ?_) (fun hc => ?_)) <;> first | (exfalso; omega) | (exfalso; dsimp only at hc; omega) | skip)
      | ((with_reducible show CallEv _ _ 47 _ _ _ _ _); refine callE (k := 47) (fun β w' hbw => h47 w' hbw) ?_)
      | ((with_reducible show CallEv _ _ 46 _ _ _ _ _); refine callM (k := 46) [4, 2] (fun β w' hbk hbw => h46 ⟨β 4, 0, none⟩ (some ⟨β 2, 0, none⟩) (β 3) w' hbw (rdc (sz := 1) (f := Rw.cs) (fun _ => rfl) rfl rfl (hbk 4 (by simp) _ rfl)) (own_as rfl rfl (hbk 2 (by simp) _ rfl))) ?_)
      | ((with_reducible show CallEv _ _ 16 _ _ _ _ _); refine callE (k := 16) (fun β w' hbw => awake_calls w') ?_)
    all_goals first | (exfalso; omega) | exact ⟨fun β => rfl, fun w' h => h⟩

set_option maxHeartbeats 8000000 in
set_option maxRecDepth 100000 in
theorem Gr_top1 (no : Option Addr) (nc : Nat) (N : List Int) (wk : Int) (co : Option Addr) (cc : Nat) (C : List Rw) (o : Option Addr) (c : Nat) (K : List Kd) (go : Option Addr) (gc : Nat) (x : Int) (xs : List Int) (n : Int) (w : World) (hX : CrIn ⟨no, nc, N, wk, co, cc, C⟩ w) (hK : KdX o c K w) (hg : Rd 1 iF (.slice go (x :: xs).length gc) (x :: xs) w) (hc : crOk N wk (C.map Rw.xs) = true) (hk40 : K.length ≤ 40) (hx45 : (x :: xs).length ≤ 45)
    (h4 : KdIn o c K w → jfE N.length (C.map Rw.xs).length wk (K.map Kd.d) (x :: xs ++ [n]) = 0 → VC Tryz.prog (rest 4 body11) (gS4 no nc N wk co cc C o c K go gc (x :: xs) n w) (endΦ env Tryz.f11 fun s σ => (∀ β, s.c β = .bool true) ∧ ∀ w', σ.h w' → Below w.heap.size w w')) :
    Calls Tryz.prog 11 #[.agg #[.slice no N.length nc, iv wk, .slice co C.length cc], .slice o K.length c, .slice go (x :: xs).length gc, iv n] w fun e w' => e = .returned (.bool true) ∧ Below w.heap.size w w' := by
  have h26 := fun w' hb => RightCourse_ok ⟨no, nc, N, wk, co, cc, C⟩ w' (hX.below hb)
  have h27 := fun (k : Kd) (hk : k ∈ K) w' hb => short_ok k.o k.c k.S w' ((hK.s k hk).below hb)
  have hKI : (∀ k ∈ K, shB k.d = true) → KdIn o c K w := fun h => ⟨hK.k, fun k hk => (hK.s k hk).sin (h k hk), by omega⟩
  have h46 := fun (hKd : KdIn o c K w) (ad : Addr) (ro : Option Addr) (rc : Nat) w' (hb : Below w.heap.size w w') (hG : Rd 1 Rw.cs (.slice (some ad) 1 1) [(⟨ro, rc, (x :: xs ++ [n])⟩ : Rw)] w') (hr : Rd 1 iF (.slice ro (x :: xs ++ [n]).length rc) (x :: xs ++ [n]) w') => JoinFault_ok ⟨no, nc, N, wk, co, cc, C⟩ o c K (some ad) 1 ⟨ro, rc, (x :: xs ++ [n])⟩ w' (hX.below hb) (hKd.below hb) hG hr (by simp at hx45 ⊢ <;> omega)
  have h47 := fun w2 (hb : Below w.heap.size w w2) => list_own (x :: xs) go gc w2 (hg.below hb) (by simp) (by omega)
  have hKr := hK.k
  dsimp only at h26 h27 h46 hc
  rw [hc] at h26
  refine calls_valV env mixed Tryz.func11 has11 Tryz.ntmps11 [.agg #[.slice no N.length nc, iv wk, .slice co C.length cc], .slice o K.length c, .slice go (x :: xs).length gc, iv n] (by simp) ?_
  skip
  have hxl : xs.length ≤ 44 := by simp at hx45; omega
  refine VC.cutH env mixed 4 1 (fun _ : Unit => [(1, .v (.slice o K.length c)), (2, .v (.slice go (x :: xs).length gc)), (3, .v (iv n)), (4, .ptr 0 0)]) (fun _ => [(0, .cells [.v (.slice no N.length nc), .v (iv wk), .v (.slice co C.length cc)] 56)]) (fun _ => Below w.heap.size w) (fun _ => KdIn o c K w ∧ jfE N.length (C.map Rw.xs).length wk (K.map Kd.d) (x :: xs ++ [n]) = 0) (fun _ _ => ⟨rfl, rfl⟩) ?_ (fun _ hp => h4 hp.1 hp.2)
  clear h4
  repeat'
   conv => whnf
   first
    | refine zA ?_ | refine zB ?_ | refine zC ?_ | refine zD ?_ | refine zE ?_ | refine zF ?_ | refine zG ?_ | refine zH ?_ | refine zJ ?_ | refine zI ?_ | refine splT ?_ | refine splF ?_ | refine splNot ?_
    | ((first | refine splIn (fun hc => ?_) (fun hc => ?_) | refine splD (fun hc => ?_) (fun hc => ?_) | refine splE (fun hc => ?_) (fun hc => ?_) | refine splNE (fun hc => ?_) (fun hc => ?_)) <;> first | (exfalso; omega) | (exfalso; dsimp only at hc; omega) | skip)
    | ((with_reducible show CallEv _ _ 26 _ _ _ _ _); refine callE (k := 26) (fun β w' hbw => h26 w' hbw) ?_)
    | ((with_reducible show CallEv _ _ 16 _ _ _ _ _); refine callE (k := 16) (fun β w' hbw => awake_calls w') ?_)
  all_goals first | (exfalso; omega) | skip
  refine loopE (fun k : Nat => [(1, .v (.slice o K.length c)), (2, .v (.slice go (x :: xs).length gc)), (3, .v (iv n)), (4, .ptr 0 0), (9, .v (iv k))]) (fun _ => [(0, .cells [.v (.slice no N.length nc), .v (iv wk), .v (.slice co C.length cc)] 56)]) (fun k => k ≤ K.length ∧ ∀ i q, i < k → K[i]? = some q → shB q.d = true) (fun k => K.length - k) 0 ⟨Nat.zero_le _, fun i q h => by omega⟩ ⟨rfl, rfl, rfl, rfl, rfl, trivial⟩ ⟨rfl, trivial⟩ (fun _ => ⟨rfl, rfl⟩) ?_
  intro k ⟨hk, hall⟩
  rcases Nat.lt_or_ge k K.length with hkl2 | hkl2
  · obtain ⟨⟨ko, kc, S⟩, hx⟩ : ∃ b, K[k]? = some b := ⟨_, List.getElem?_eq_getElem hkl2⟩
    obtain ⟨_, ad, rfl, _⟩ := hKr.ptr (by omega)
    have e0 := fun (w' : World) hw' => rd_ati (hKr.below (w' := w') hw') hx
    have hs := h27 _ (List.mem_of_getElem? hx)
    dsimp only at hs
    cases hz : shB (S.map Sy.d) with
    | true =>
      rw [hz] at hs
      repeat'
       conv => whnf
       first
        | refine zA ?_ | refine zB ?_ | refine zC ?_ | refine zD ?_ | refine zE ?_ | refine zF ?_ | refine zG ?_ | refine zH ?_ | refine zJ ?_ | refine zI ?_ | refine splT ?_ | refine splF ?_ | refine splNot ?_
        | ((first | refine splIn (fun hc => ?_) (fun hc => ?_) | refine splD (fun hc => ?_) (fun hc => ?_) | refine splE (fun hc => ?_) (fun hc => ?_) | refine splNE (fun hc => ?_) (fun hc => ?_)) <;> first | (exfalso; omega) | (exfalso; dsimp only at hc; omega) | skip)
        | refine Exists.intro (α := List Value) [.slice ko S.length kc] ⟨⟨rfl, fun w' hw' => e0 w' hw'⟩, ?_⟩
        | ((with_reducible show CallEv _ _ 27 _ _ _ _ _); refine callE (k := 27) (fun β w' hbw => hs w' hbw) ?_)
      all_goals first | (exfalso; omega) | exact ⟨k + 1, ⟨by omega, fun i q hi hq => (Nat.lt_or_ge i k).elim (fun h => hall i q h hq) fun h => by
        obtain rfl : i = k := by omega
        rw [hx, Option.some.injEq] at hq; subst hq; exact hz⟩, by omega, Ent.weak rfl ⟨rfl, rfl, rfl, rfl, rfl, trivial⟩ ⟨rfl, trivial⟩ fun _ h => h⟩
    | false =>
      rw [hz] at hs
      repeat'
       conv => whnf
       first
        | refine zA ?_ | refine zB ?_ | refine zC ?_ | refine zD ?_ | refine zE ?_ | refine zF ?_ | refine zG ?_ | refine zH ?_ | refine zJ ?_ | refine zI ?_ | refine splT ?_ | refine splF ?_ | refine splNot ?_
        | ((first | refine splIn (fun hc => ?_) (fun hc => ?_) | refine splD (fun hc => ?_) (fun hc => ?_) | refine splE (fun hc => ?_) (fun hc => ?_) | refine splNE (fun hc => ?_) (fun hc => ?_)) <;> first | (exfalso; omega) | (exfalso; dsimp only at hc; omega) | skip)
        | refine Exists.intro (α := List Value) [.slice ko S.length kc] ⟨⟨rfl, fun w' hw' => e0 w' hw'⟩, ?_⟩
        | ((with_reducible show CallEv _ _ 27 _ _ _ _ _); refine callE (k := 27) (fun β w' hbw => hs w' hbw) ?_)
        | ((with_reducible show CallEv _ _ 16 _ _ _ _ _); refine callE (k := 16) (fun β w' hbw => awake_calls w') ?_)
      all_goals first | (exfalso; omega) | exact ⟨fun β => rfl, fun w' h => h⟩
  have hkk : k = K.length := by omega
  have hKd := hKI fun q hq => by
    obtain ⟨i, hi⟩ := List.mem_iff_getElem?.1 hq
    exact hall i q (by have := (List.getElem?_eq_some_iff.1 hi).1; omega) hi
  clear hall
  have h46 := h46 hKd
  have hmm : (C.map Rw.xs).length = C.length := List.length_map ..
  generalize hE : jfE N.length (C.map Rw.xs).length wk (K.map Kd.d) (x :: xs ++ [n]) = E at *
  by_cases hE0 : E = 0
  · subst hE0
    repeat'
     conv => whnf
     first
      | refine zA ?_ | refine zB ?_ | refine zC ?_ | refine zD ?_ | refine zE ?_ | refine zF ?_ | refine zG ?_ | refine zH ?_ | refine zJ ?_ | refine zI ?_ | refine splT ?_ | refine splF ?_ | refine splNot ?_
      | ((first | refine splIn (fun hc => ?_) (fun hc => ?_) | refine splD (fun hc => ?_) (fun hc => ?_) | refine splE (fun hc => ?_) (fun hc => ?_) | refine splNE (fun hc => ?_) (fun hc => ?_)) <;> first | (exfalso; omega) | (exfalso; dsimp only at hc; omega) | skip)
      | ((with_reducible show CallEv _ _ 47 _ _ _ _ _); refine callO 1 [] (.os 1 2 (xs.length + 1)) (xs.length + 1) 1 ((x :: xs).flatMap iF) 3 rfl (fun β w' _ hbw => (h47 w' hbw).mono fun _ _ ⟨b, c, h1, h2, h3, h4⟩ => ⟨b, c, h1, h2, h3, h4⟩) ?_)
      | ((with_reducible show CallEv _ _ 46 _ _ _ _ _); refine callM (k := 46) [6, 4] (fun β w' hbk hbw => h46 ⟨β 6, 0, none⟩ (some ⟨β 4, 0, none⟩) (β 5) w' hbw (rdc (sz := 1) (f := Rw.cs) (fun _ => rfl) (by simp [SV.cs, SV.c, Rw.cs]) rfl (hbk 6 (by simp) _ rfl)) (own_as (by simp) (by simp) (hbk 4 (by simp) _ rfl))) ?_)
      | ((with_reducible show CallEv _ _ 16 _ _ _ _ _); refine callE (k := 16) (fun β w' hbw => awake_calls w') ?_)
    all_goals first | (exfalso; omega) | exact ⟨rfl, (), ⟨hKd, rfl⟩, Ent.weak rfl ⟨rfl, rfl, rfl, rfl, trivial⟩ ⟨rfl, trivial⟩ fun _ h => h⟩
  · skip
    repeat'
     conv => whnf
     first
      | refine zA ?_ | refine zB ?_ | refine zC ?_ | refine zD ?_ | refine zE ?_ | refine zF ?_ | refine zG ?_ | refine zH ?_ | refine zJ ?_ | refine zI ?_ | refine splT ?_ | refine splF ?_ | refine splNot ?_
      | ((first | refine splIn (fun hc => ?_) (fun hc => ?_) | refine splD (fun hc => ?_) (fun hc => ?_) | refine splE (fun hc => ?_) (fun hc => ?_) | refine splNE (fun hc => ?_) (fun hc => ?_)) <;> first | (exfalso; omega) | (exfalso; dsimp only at hc; omega) | skip)
      | ((with_reducible show CallEv _ _ 47 _ _ _ _ _); refine callO 1 [] (.os 1 2 (xs.length + 1)) (xs.length + 1) 1 ((x :: xs).flatMap iF) 3 rfl (fun β w' _ hbw => (h47 w' hbw).mono fun _ _ ⟨b, c, h1, h2, h3, h4⟩ => ⟨b, c, h1, h2, h3, h4⟩) ?_)
      | ((with_reducible show CallEv _ _ 46 _ _ _ _ _); refine callM (k := 46) [6, 4] (fun β w' hbk hbw => h46 ⟨β 6, 0, none⟩ (some ⟨β 4, 0, none⟩) (β 5) w' hbw (rdc (sz := 1) (f := Rw.cs) (fun _ => rfl) (by simp [SV.cs, SV.c, Rw.cs]) rfl (hbk 6 (by simp) _ rfl)) (own_as (by simp) (by simp) (hbk 4 (by simp) _ rfl))) ?_)
      | ((with_reducible show CallEv _ _ 16 _ _ _ _ _); refine callE (k := 16) (fun β w' hbw => awake_calls w') ?_)
    all_goals first | (exfalso; omega) | exact ⟨fun β => rfl, fun w' h => h⟩
end Go.Proofs.YtpleibfohjbneaaGreat
