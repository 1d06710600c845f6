/- SchoolAdds: the guard; what the child has, with its stays in another order, and with a stay less. -/
import Derived.Test.YtpleibfohjbneaaGreatS4
import Derived.Test.YtpleibfohjbneaaGreatS3
import Derived.Test.YtpleibfohjbneaaGreatSP
import Derived.Test.YtpleibfohjbneaaGreatT0
namespace Go.Proofs.YtpleibfohjbneaaGreat
open Go Tx Go.RowKit
set_option linter.unusedSimpArgs false
set_option linter.unusedVariables false

theorem Rd.dropP {α : Type} {sz : Nat} {f : α → List Value} {ad : Addr} {n c : Nat} {L : List α} {w : World} (h : Rd sz f (.slice (some ad) n c) L w) (k c' : Nat) : Rd sz f (.slice (some (ad.add (k * sz))) (L.drop k).length c') (L.drop k) w :=
  .inr ⟨_, _, rfl, fun i b hi j v hv => by
    rw [List.getElem?_drop] at hi
    have := rd_at h hi j v hv
    rwa [show ((ad.add (k * sz)).add (i * sz)) = ad.add ((k + i) * sz) from by rw [Addr.add_add, Nat.add_mul]]⟩
theorem Rd.takeP {α : Type} {sz : Nat} {f : α → List Value} {ad : Addr} {n c : Nat} {L : List α} {w : World} (h : Rd sz f (.slice (some ad) n c) L w) (k c' : Nat) : Rd sz f (.slice (some ad) (L.take k).length c') (L.take k) w :=
  .inr ⟨_, _, rfl, fun i b hi j v hv => by
    refine rd_at h ?_ j v hv
    rw [List.getElem?_take] at hi
    split at hi
    · exact hi
    · cases hi⟩
theorem lenSy (S : List Sy) : (S.flatMap Sy.cs).length = S.length * 2 := by
  induction S with
  | nil => rfl
  | cons a S ih => rw [List.flatMap_cons, List.length_append, ih, List.length_cons]; simp; omega
theorem oneSy (S : List Sy) : ∀ v ∈ S.flatMap Sy.cs, v.oneCell' = true := fun v hv => by
  obtain ⟨s, _, hv⟩ := List.mem_flatMap.1 hv
  simp only [Sy.cs, List.mem_cons, List.not_mem_nil, or_false] at hv
  rcases hv with rfl | rfl <;> rfl
theorem Stays_m (o : Option Addr) (c : Nat) (S : List Sy) (w : World) (h : SyIn o c S w) (m : Nat) (hm : m = S.length) {SS : List (Int × List Int)} (hs : S.map Sy.d = SS) :
    Calls Tryz.prog 31 #[.slice o m c] w fun e w' => ∃ y : SyF SS, e = .returned y.v ∧ Below w.heap.size w w' ∧ St w.heap.size y.In w' := by
  subst hm hs
  exact Stays_ok o c S w h
theorem u8_under : Tryz.prog.underlying 5 = some (.int .u8) := by kernel_rfl
theorem under3' : Tryz.prog.underlying 3 = some (.int .i64) := by kernel_rfl
theorem cv8 (n : Int) (h : 0 ≤ n ∧ n ≤ 255) : RunIs Tryz.prog (convert 5 3 (.int .u8 n)) (iv n) := fun w => by
  have h3 : IntKind.i64.wrap n = n := IR.wrap (k := .i64) ⟨by omega, by omega⟩
  simp [convert, Conv.intToInt, Go.run_underlying u8_under w, Go.run_underlying under3' w, h3]
/-- A slice of numbers that lies somewhere. -/
abbrev Lq (n : Nat) (L : List Int) (q : Addr × Nat) (w : World) : Prop := Rd 1 iF (.slice (some q.1) n q.2) L w
abbrev hyH (N : List Int) (CC : List (List Int)) (SS : List (Int × List Int)) (u : (Addr × Nat) × (Addr × Nat)) (w : World) : Prop := Lq N.length (aK CC SS N.length) u.1 w ∧ Lq N.length (bK N CC SS N.length) u.2 w
abbrev hyV (n : Nat) (u : (Addr × Nat) × (Addr × Nat)) : Value := .tuple #[.slice (some u.1.1) n u.1.2, .slice (some u.2.1) n u.2.2, iv 0]
theorem Has_at {N : List Int} {wk : Int} {CC : List (List Int)} {SS : List (Int × List Int)} (hz : SzOk N CC SS) (h0 : ckE N wk CC SS = 0) (h1 : 1 ≤ N.length) (y : (Option Addr × Nat) × Rws CC) (z : SyF SS) (w : World) (h : crH N y w) (h' : z.In w) :
    Calls Tryz.prog 29 #[.agg #[.slice y.1.1 N.length y.1.2, iv wk, .slice y.2.o y.2.C.length y.2.c], .slice z.o z.S.length z.c] w fun e w' => ∃ u : (Addr × Nat) × (Addr × Nat), e = .returned (hyV N.length u) ∧ Below w.heap.size w w' ∧ St w.heap.size (hyH N CC SS u) w' := by
  obtain ⟨⟨n1, n2⟩, c1, c2, C1, hC⟩ := y
  obtain ⟨s1, s2, S1, hS⟩ := z
  have hn := Has_nr (wk := wk) hz n1 n2 c1 c2 C1 hC s1 s2 S1 hS w h h'
  have hl : (aK CC SS N.length).length = N.length := rmap_len ..
  have hl2 : (bK N CC SS N.length).length = N.length := rmap_len ..
  rw [h0, show hasL N wk CC SS = aK CC SS N.length from by unfold hasL; rw [if_pos h0]; rfl, show lefL N wk CC SS = bK N CC SS N.length from by unfold lefL; rw [if_pos h0]; rfl, hl, hl2] at hn
  refine hn.mono fun e w' ⟨⟨⟨u1, u2⟩, u3, u4⟩, e1, e2, e3⟩ => ?_
  have h2 := e3 w' (Keep.refl _ _)
  obtain ⟨_, a1, rfl, _⟩ := h2.1.ptr h1
  obtain ⟨_, a2, rfl, _⟩ := h2.2.ptr h1
  exact ⟨((a1, u2), a2, u4), e1, e2, e3⟩
def hdO : Code → Array Oper | .seq (.region _ o _) _ => o | _ => #[]
theorem c7_4 : rest 2 (rest 2 body7) = .seq (.region 5 (hdO (rest 4 body7)) true) (rest 5 body7) := by kernel_rfl
theorem c7_5 : rest 5 body7 = .seq (.region 6 (hdO (rest 5 body7)) true) (rest 6 body7) := by kernel_rfl
abbrev aS2 (no : Option Addr) (nc : Nat) (N : List Int) (wk : Int) (co : Option Addr) (cc : Nat) (C : List Rw) (o : Option Addr) (c : Nat) (S : List Sy) (tn : Int) (w : World) : Sg := ⟨248, [(1, .v (.slice o S.length c)), (2, .v (.int .u8 tn)), (3, .ptr 0 0)], [(0, .cells [.v (.slice no N.length nc), .v (iv wk), .v (.slice co C.length cc)] 56)], 1, Below w.heap.size w, z0⟩
abbrev aS4 (no : Option Addr) (nc : Nat) (N : List Int) (wk : Int) (co : Option Addr) (cc : Nat) (C : List Rw) (o : Option Addr) (c : Nat) (S : List Sy) (tn : Int) (w : World) (k : Nat) (u : (Addr × Nat) × (Addr × Nat)) : Sg := ⟨248, [(1, .v (.slice o S.length c)), (3, .ptr 0 0), (7, .v (iv k)), (8, .v (.slice (some u.1.1) N.length u.1.2)), (9, .v (.slice (some u.2.1) N.length u.2.2)), (10, .v (iv 0))], [(0, .cells [.v (.slice no N.length nc), .v (iv wk), .v (.slice co C.length cc)] 56)], 1, fun w2 => Below w.heap.size w w2 ∧ hyH N (C.map Rw.xs) (S.map Sy.d) u w2, z0⟩
abbrev aS5 (no : Option Addr) (nc : Nat) (N : List Int) (wk : Int) (co : Option Addr) (cc : Nat) (C : List Rw) (o : Option Addr) (c : Nat) (S : List Sy) (tn : Int) (w : World) (u : (Addr × Nat) × (Addr × Nat)) (v : Addr × Nat) : Sg := ⟨248, [(1, .v (.slice o S.length c)), (3, .ptr 0 0), (8, .v (.slice (some u.1.1) N.length u.1.2)), (9, .v (.slice (some u.2.1) N.length u.2.2)), (10, .v (iv 0)), (11, .v (.slice (some v.1) N.length v.2)), (13, .v (iv 0))], [(0, .cells [.v (.slice no N.length nc), .v (iv wk), .v (.slice co C.length cc)] 56)], 1, fun w2 => (Below w.heap.size w w2 ∧ hyH N (C.map Rw.xs) (S.map Sy.d) u w2) ∧ Lq N.length (aK (C.map Rw.xs) (S.map Sy.d) N.length) v w2, z0⟩
abbrev aS6 (no : Option Addr) (nc : Nat) (N : List Int) (wk : Int) (co : Option Addr) (cc : Nat) (C : List Rw) (o : Option Addr) (c : Nat) (S : List Sy) (tn : Int) (w : World) (u : (Addr × Nat) × (Addr × Nat)) (v : Addr × Nat) (x : (Addr × Nat) × (Addr × Nat)) : Sg := ⟨248, [(1, .v (.slice o S.length c)), (3, .ptr 0 0), (8, .v (.slice (some u.1.1) N.length u.1.2)), (9, .v (.slice (some u.2.1) N.length u.2.2)), (10, .v (iv 0)), (11, .v (.slice (some v.1) N.length v.2)), (13, .v (iv 0)), (14, .v (.slice (some x.1.1) N.length x.1.2)), (15, .v (.slice (some x.2.1) N.length x.2.2)), (16, .v (iv 0))], [(0, .cells [.v (.slice no N.length nc), .v (iv wk), .v (.slice co C.length cc)] 56)], 1, fun w2 => ((Below w.heap.size w w2 ∧ hyH N (C.map Rw.xs) (S.map Sy.d) u w2) ∧ Lq N.length (aK (C.map Rw.xs) (S.map Sy.d) N.length) v w2) ∧ hyH N (C.map Rw.xs) ((S.map Sy.d).take (S.length - 1)) x w2, z0⟩
set_option maxHeartbeats 4000000 in
set_option maxRecDepth 100000 in
theorem Ad_bad (no : Option Addr) (nc : Nat) (N : List Int) (wk : Int) (co : Option Addr) (cc : Nat) (C : List Rw) (o : Option Addr) (c : Nat) (S : List Sy) (tn : Int) (w : World) (hX : CrX ⟨no, nc, N, wk, co, cc, C⟩ w) (hY : SyX o c S w) (hb : ¬ (crOk N wk (C.map Rw.xs) = true ∧ shB (S.map Sy.d) = true ∧ stE N.length (C.map Rw.xs).length wk (S.map Sy.d) = 0 ∧ S ≠ [])) :
    Calls Tryz.prog 7 #[.agg #[.slice no N.length nc, iv wk, .slice co C.length cc], .slice o S.length c, .int .u8 tn] w fun e w' => e = .returned (.bool true) ∧ Below w.heap.size w w' := by
  have h26 := fun w' hb => RightCourseA_ok ⟨no, nc, N, wk, co, cc, C⟩ w' (hX.below hb)
  have h27 := fun w' hb => short_ok o c S w' (hY.below hb)
  have h28 := fun (ht : thB N (C.map Rw.xs) = true) (hs : shB (S.map Sy.d) = true) w' hb => StaysFault_ok ⟨no, nc, N, wk, co, cc, C⟩ o c S w' ((hX.cin ht).below hb) ((hY.sin hs).below hb)
  dsimp only at h26 h28
  refine calls_val env mixed Tryz.func7 has7 Tryz.ntmps7 [.agg #[.slice no N.length nc, iv wk, .slice co C.length cc], .slice o S.length c, .int .u8 tn] (by simp) ?_
  cases hc : crOk N wk (C.map Rw.xs) with
  | false =>
    rw [hc] at h26
    repeat'
     conv => whnf
     first
      | refine zA ?_ | refine zB ?_ | refine zC ?_ | refine zD ?_ | refine zE ?_ | refine zF ?_ | refine zG ?_ | refine zH ?_ | refine zJ ?_ | refine zI ?_ | refine splT ?_ | refine splF ?_ | refine splNot ?_
      | ((first | refine splIn (fun hc => ?_) (fun hc => ?_) | refine splD (fun hc => ?_) (fun hc => ?_) | refine splE (fun hc => ?_) (fun hc => ?_) | refine splNE (fun hc => ?_) (fun hc => ?_)) <;> first | (exfalso; omega) | (exfalso; dsimp only at hc; omega) | skip)
      | ((with_reducible show CallEv _ _ 26 _ _ _ _ _); refine callE (k := 26) (fun β w' hbw => h26 w' hbw) ?_)
      | ((with_reducible show CallEv _ _ 16 _ _ _ _ _); refine callE (k := 16) (fun β w' hbw => awake_calls w') ?_)
    all_goals first | (exfalso; omega) | exact ⟨fun β => rfl, fun w' h => h⟩
  | true =>
    have ht := thB_ofA (wk := wk) hc
    rw [hc] at h26 hb
    cases hs : shB (S.map Sy.d) with
    | false =>
      rw [hs] at h27
      repeat'
       conv => whnf
       first
        | refine zA ?_ | refine zB ?_ | refine zC ?_ | refine zD ?_ | refine zE ?_ | refine zF ?_ | refine zG ?_ | refine zH ?_ | refine zJ ?_ | refine zI ?_ | refine splT ?_ | refine splF ?_ | refine splNot ?_
        | ((first | refine splIn (fun hc => ?_) (fun hc => ?_) | refine splD (fun hc => ?_) (fun hc => ?_) | refine splE (fun hc => ?_) (fun hc => ?_) | refine splNE (fun hc => ?_) (fun hc => ?_)) <;> first | (exfalso; omega) | (exfalso; dsimp only at hc; omega) | skip)
        | ((with_reducible show CallEv _ _ 26 _ _ _ _ _); refine callE (k := 26) (fun β w' hbw => h26 w' hbw) ?_)
        | ((with_reducible show CallEv _ _ 27 _ _ _ _ _); refine callE (k := 27) (fun β w' hbw => h27 w' hbw) ?_)
        | ((with_reducible show CallEv _ _ 16 _ _ _ _ _); refine callE (k := 16) (fun β w' hbw => awake_calls w') ?_)
      all_goals first | (exfalso; omega) | exact ⟨fun β => rfl, fun w' h => h⟩
    | true =>
      replace h28 := h28 ht hs
      rw [hs] at h27 hb
      generalize stE N.length (C.map Rw.xs).length wk (S.map Sy.d) = F at *
      by_cases hF : F = 0
      · subst hF
        have : S = [] := Classical.byContradiction fun h => hb ⟨rfl, rfl, rfl, h⟩
        subst this
        repeat'
         conv => whnf
         first
          | refine zA ?_ | refine zB ?_ | refine zC ?_ | refine zD ?_ | refine zE ?_ | refine zF ?_ | refine zG ?_ | refine zH ?_ | refine zJ ?_ | refine zI ?_ | refine splT ?_ | refine splF ?_ | refine splNot ?_
          | ((first | refine splIn (fun hc => ?_) (fun hc => ?_) | refine splD (fun hc => ?_) (fun hc => ?_) | refine splE (fun hc => ?_) (fun hc => ?_) | refine splNE (fun hc => ?_) (fun hc => ?_)) <;> first | (exfalso; omega) | (exfalso; dsimp only at hc; omega) | skip)
          | ((with_reducible show CallEv _ _ 26 _ _ _ _ _); refine callE (k := 26) (fun β w' hbw => h26 w' hbw) ?_)
          | ((with_reducible show CallEv _ _ 27 _ _ _ _ _); refine callE (k := 27) (fun β w' hbw => h27 w' hbw) ?_)
          | ((with_reducible show CallEv _ _ 28 _ _ _ _ _); refine callE (k := 28) (fun β w' hbw => h28 w' hbw) ?_)
          | ((with_reducible show CallEv _ _ 16 _ _ _ _ _); refine callE (k := 16) (fun β w' hbw => awake_calls w') ?_)
        all_goals first | (exfalso; omega) | exact ⟨fun β => rfl, fun w' h => h⟩
      · skip
        repeat'
         conv => whnf
         first
          | refine zA ?_ | refine zB ?_ | refine zC ?_ | refine zD ?_ | refine zE ?_ | refine zF ?_ | refine zG ?_ | refine zH ?_ | refine zJ ?_ | refine zI ?_ | refine splT ?_ | refine splF ?_ | refine splNot ?_
          | ((first | refine splIn (fun hc => ?_) (fun hc => ?_) | refine splD (fun hc => ?_) (fun hc => ?_) | refine splE (fun hc => ?_) (fun hc => ?_) | refine splNE (fun hc => ?_) (fun hc => ?_)) <;> first | (exfalso; omega) | (exfalso; dsimp only at hc; omega) | skip)
          | ((with_reducible show CallEv _ _ 26 _ _ _ _ _); refine callE (k := 26) (fun β w' hbw => h26 w' hbw) ?_)
          | ((with_reducible show CallEv _ _ 27 _ _ _ _ _); refine callE (k := 27) (fun β w' hbw => h27 w' hbw) ?_)
          | ((with_reducible show CallEv _ _ 28 _ _ _ _ _); refine callE (k := 28) (fun β w' hbw => h28 w' hbw) ?_)
          | ((with_reducible show CallEv _ _ 16 _ _ _ _ _); refine callE (k := 16) (fun β w' hbw => awake_calls w') ?_)
        all_goals first | (exfalso; omega) | exact ⟨fun β => rfl, fun w' h => h⟩
set_option maxHeartbeats 4000000 in
set_option maxRecDepth 100000 in
theorem Ad_top (no : Option Addr) (nc : Nat) (N : List Int) (wk : Int) (co : Option Addr) (cc : Nat) (C : List Rw) (o : Option Addr) (c : Nat) (S : List Sy) (tn : Int) (w : World) (hX : CrIn ⟨no, nc, N, wk, co, cc, C⟩ w) (hY : SyIn o c S w) (hY' : SyX o c S w) (hc : crOk N wk (C.map Rw.xs) = true) (hs : shB (S.map Sy.d) = true) (hF : stE N.length (C.map Rw.xs).length wk (S.map Sy.d) = 0) (h0 : 1 ≤ S.length)
    (h2 : VC Tryz.prog (rest 2 body7) (aS2 no nc N wk co cc C o c S tn w) (endΦ env Tryz.f7 fun s σ => (∀ β, s.c β = .bool true) ∧ ∀ w', σ.h w' → Below w.heap.size w w')) :
    Calls Tryz.prog 7 #[.agg #[.slice no N.length nc, iv wk, .slice co C.length cc], .slice o S.length c, .int .u8 tn] w fun e w' => e = .returned (.bool true) ∧ Below w.heap.size w w' := by
  have h26 := fun w' hb => RightCourse_ok ⟨no, nc, N, wk, co, cc, C⟩ w' (hX.below hb)
  have h27 := fun w' hb => short_ok o c S w' (hY'.below hb)
  have h28 := fun w' hb => StaysFault_ok ⟨no, nc, N, wk, co, cc, C⟩ o c S w' (hX.below hb) (hY.below hb)
  dsimp only at h26 h28
  rw [hc] at h26
  rw [hs] at h27
  rw [hF] at h28
  refine calls_valV env mixed Tryz.func7 has7 Tryz.ntmps7 [.agg #[.slice no N.length nc, iv wk, .slice co C.length cc], .slice o S.length c, .int .u8 tn] (by simp) ?_
  refine VC.cutH env mixed 2 1 (fun _ : Unit => (aS2 no nc N wk co cc C o c S tn w).t) (fun _ => [(0, .cells [.v (.slice no N.length nc), .v (iv wk), .v (.slice co C.length cc)] 56)]) (fun _ => Below w.heap.size w) (fun _ => True) (fun _ _ => ⟨rfl, rfl⟩) ?_ (fun _ _ => h2)
  clear h2
  repeat'
   conv => whnf
   first
    | refine zA ?_ | refine zB ?_ | refine zC ?_ | refine zD ?_ | refine zE ?_ | refine zF ?_ | refine zG ?_ | refine zH ?_ | refine zJ ?_ | refine zI ?_ | refine splT ?_ | refine splF ?_ | refine splNot ?_
    | ((first | refine splIn (fun hc => ?_) (fun hc => ?_) | refine splD (fun hc => ?_) (fun hc => ?_) | refine splE (fun hc => ?_) (fun hc => ?_) | refine splNE (fun hc => ?_) (fun hc => ?_)) <;> first | (exfalso; omega) | (exfalso; dsimp only at hc; omega) | skip)
    | ((with_reducible show CallEv _ _ 26 _ _ _ _ _); refine callE (k := 26) (fun β w' hbw => h26 w' hbw) ?_)
    | ((with_reducible show CallEv _ _ 27 _ _ _ _ _); refine callE (k := 27) (fun β w' hbw => h27 w' hbw) ?_)
    | ((with_reducible show CallEv _ _ 28 _ _ _ _ _); refine callE (k := 28) (fun β w' hbw => h28 w' hbw) ?_)
    | ((with_reducible show CallEv _ _ 16 _ _ _ _ _); refine callE (k := 16) (fun β w' hbw => awake_calls w') ?_)
  all_goals first | (exfalso; omega) | exact ⟨rfl, (), trivial, Ent.weak rfl ⟨rfl, rfl, rfl, trivial⟩ ⟨rfl, trivial⟩ fun _ h => h⟩
set_option maxHeartbeats 4000000 in
set_option maxRecDepth 100000 in
theorem Ad4 (no : Option Addr) (nc : Nat) (N : List Int) (wk : Int) (co : Option Addr) (cc : Nat) (C : List Rw) (o : Option Addr) (c : Nat) (S : List Sy) (tn : Int) (w : World) (hX : CrIn ⟨no, nc, N, wk, co, cc, C⟩ w) (hY : SyIn o c S w) (hE : ckE N wk (C.map Rw.xs) (S.map Sy.d) = 0) (h0 : 1 ≤ S.length) (ht : 0 ≤ tn ∧ tn ≤ 255)
    (h4 : ∀ k u, k < S.length → VC Tryz.prog (rest 2 (rest 2 body7)) (aS4 no nc N wk co cc C o c S tn w k u) (endΦ env Tryz.f7 fun s σ => (∀ β, s.c β = .bool true) ∧ ∀ w', σ.h w' → Below w.heap.size w w')) : VC Tryz.prog (rest 2 body7) (aS2 no nc N wk co cc C o c S tn w) (endΦ env Tryz.f7 fun s σ => (∀ β, s.c β = .bool true) ∧ ∀ w', σ.h w' → Below w.heap.size w w') := by
  have h30 := fun w' hb => Course_nr ⟨no, nc, N, wk, co, cc, C⟩ w' (hX.below hb)
  have hz := SzOk.of hX hY
  have hy := YrOk.of hE
  have hn6 := hy.n6
  have hsl := hY.sl
  dsimp only at h30 hz
  have h31 := fun w' hb => Stays_ok o c S w' (hY.below hb)
  have h29 := @Has_at N wk (C.map Rw.xs) (S.map Sy.d) hz hE hn6.1
  obtain ⟨k, hk, htk⟩ : ∃ k : Nat, k < S.length ∧ tn.tmod (S.length : Int) = k := by
    have h1 := Int.tmod_nonneg (S.length : Int) ht.1
    have h2 := Int.tmod_lt_of_pos tn (show (0 : Int) < S.length by omega)
    exact ⟨(tn.tmod (S.length : Int)).toNat, by omega, by omega⟩
  have h4 := fun u => h4 k u hk
  refine VC.cutH env mixed 2 1 (fun u => (aS4 no nc N wk co cc C o c S tn w k u).t) (fun _ => [(0, .cells [.v (.slice no N.length nc), .v (iv wk), .v (.slice co C.length cc)] 56)]) (fun u => (aS4 no nc N wk co cc C o c S tn w k u).h) (fun _ => True) (fun _ _ => ⟨rfl, rfl⟩) ?_ (fun u _ => h4 u)
  clear h4
  repeat'
   conv => whnf
   first
    | refine zA ?_ | refine zB ?_ | refine zC ?_ | refine zD ?_ | refine zE ?_ | refine zF ?_ | refine zG ?_ | refine zH ?_ | refine zJ ?_ | refine zI ?_ | refine splT ?_ | refine splF ?_ | refine splNot ?_
    | ((first | refine splIn (fun hc => ?_) (fun hc => ?_) | refine splD (fun hc => ?_) (fun hc => ?_) | refine splE (fun hc => ?_) (fun hc => ?_) | refine splNE (fun hc => ?_) (fun hc => ?_)) <;> first | (exfalso; omega) | (exfalso; dsimp only at hc; omega) | skip)
    | refine Exists.intro (α := Int) (k : Int) ⟨⟨by omega, htk⟩, ?_⟩
    | refine Exists.intro (α := Value) (iv tn) ⟨cv8 tn ht, ?_⟩
    | ((with_reducible show CallEv _ _ 30 _ _ _ _ _); refine callF [] (fun y : (Option Addr × Nat) × Rws (C.map Rw.xs) => .agg #[.slice y.1.1 N.length y.1.2, iv wk, .slice y.2.o y.2.C.length y.2.c]) (fun y => crH N y) (fun β w' _ hbw => h30 w' (by first | exact hbw | exact hbw.1 | exact hbw.1.1 | exact hbw.1.1.1 | exact hbw.1.1.1.1 | exact hbw.1.1.1.1.1 | exact hbw.1.1.1.1.1.1 | exact hbw.1.1.1.1.1.1.1 | exact hbw.1.1.1.1.1.1.1.1 | exact hbw.1.1.1.1.1.1.1.1.1 | exact hbw.1.1.1.1.1.1.1.1.1.1 | exact hbw.1.1.1.1.1.1.1.1.1.1.1 | exact hbw.1.1.1.1.1.1.1.1.1.1.1.1 | exact hbw.1.1.1.1.1.1.1.1.1.1.1.1.1)) ?_; intro y)
    | ((with_reducible show CallEv _ _ 31 _ _ _ _ _); refine callF [] (fun y : SyF (S.map Sy.d) => .slice y.o y.S.length y.c) (fun y => y.In) (fun β w' _ hbw => h31 w' (by first | exact hbw | exact hbw.1 | exact hbw.1.1 | exact hbw.1.1.1 | exact hbw.1.1.1.1 | exact hbw.1.1.1.1.1 | exact hbw.1.1.1.1.1.1 | exact hbw.1.1.1.1.1.1.1 | exact hbw.1.1.1.1.1.1.1.1 | exact hbw.1.1.1.1.1.1.1.1.1 | exact hbw.1.1.1.1.1.1.1.1.1.1 | exact hbw.1.1.1.1.1.1.1.1.1.1.1 | exact hbw.1.1.1.1.1.1.1.1.1.1.1.1 | exact hbw.1.1.1.1.1.1.1.1.1.1.1.1.1)) ?_; intro z)
    | ((with_reducible show CallEv _ _ 29 _ _ _ _ _); refine callF [] (hyV N.length) (hyH N (C.map Rw.xs) (S.map Sy.d)) (fun β w' _ hbw => h29 y z w' hbw.1.2 hbw.2) ?_; intro u; obtain ⟨⟨u1, u2⟩, u3, u4⟩ := u; dsimp only)
  all_goals first | (exfalso; omega) | exact ⟨rfl, ((u1, u2), u3, u4), trivial, Ent.weak rfl ⟨rfl, rfl, rfl, rfl, rfl, rfl, trivial⟩ ⟨rfl, trivial⟩ fun w2 h => ⟨h.1.1.1, h.2⟩⟩
end Go.Proofs.YtpleibfohjbneaaGreat
