/- SchoolYears: whatever the arguments, the law answers true. -/
import Derived.Test.YtpleibfohjbneaaGreatSI
import Derived.Test.YtpleibfohjbneaaGreatH
namespace Go.Proofs.YtpleibfohjbneaaGreat
open Go Tx Go.RowKit
set_option linter.unusedSimpArgs false
set_option linter.unusedVariables false

theorem ints_same (L : List Int) (o p : Option Addr) (n m c d : Nat) (w : World) (hn : n = L.length) (hm : m = L.length) (hA : Rd 1 iF (.slice o n c) L w) (hB : Rd 1 iF (.slice p m d) L w) (hl : L.length ≤ 1000000) :
    Calls Tryz.prog 32 #[.slice o n c, .slice p m d] w fun e w' => e = .returned (.bool true) ∧ Below w.heap.size w w' := by
  subst hn hm
  have := ints_ok L L o p c d w hA hB hl hl
  rwa [decide_eq_true rfl] at this
/-- What bounds the lists of a course and of stays. -/
structure SzOk (N : List Int) (CC : List (List Int)) (SS : List (Int × List Int)) : Prop where
  n : N.length ≤ 1000000
  c : CC.length ≤ 1000000
  r : ∀ l ∈ CC, l.length ≤ 1000000
  s : SS.length ≤ 1000000
  t : ∀ s ∈ SS, s.2.length ≤ 1000000
theorem SzOk.of {x : Cr} {o : Option Addr} {c : Nat} {S : List Sy} {w : World} (h : CrIn x w) (hS : SyIn o c S w) : SzOk x.N x.CC (S.map Sy.d) :=
  ⟨h.nl, by rw [List.length_map]; exact h.cl, fun l hl => by obtain ⟨r, hr, rfl⟩ := List.mem_map.1 hl; exact h.rl r hr, by rw [List.length_map]; exact hS.sl, fun s hs => by obtain ⟨r, hr, rfl⟩ := List.mem_map.1 hs; exact hS.rl r hr⟩
abbrev crH (N : List Int) {CC : List (List Int)} (y : (Option Addr × Nat) × Rws CC) (w : World) : Prop := Rd 1 iF (.slice y.1.1 N.length y.1.2) N w ∧ y.2.In w
theorem crIn_of {N : List Int} {wk : Int} {CC : List (List Int)} {SS : List (Int × List Int)} (hz : SzOk N CC SS) {n1 : Option Addr} {n2 : Nat} {c1 : Option Addr} {c2 : Nat} {C1 : List Rw} (hC : C1.map Rw.xs = CC) {w : World} (h : crH N ((n1, n2), (⟨c1, c2, C1, hC⟩ : Rws CC)) w) :
    CrIn ⟨n1, n2, N, wk, c1, c2, C1⟩ w := by
  subst hC
  exact ⟨h.1, h.2.1, h.2.2, hz.n, by have := hz.c; rwa [List.length_map] at this, fun r hr => hz.r _ (List.mem_map_of_mem hr)⟩
theorem syIn_of {N : List Int} {CC : List (List Int)} {SS : List (Int × List Int)} (hz : SzOk N CC SS) {s1 : Option Addr} {s2 : Nat} {S1 : List Sy} (hS : S1.map Sy.d = SS) {w : World} (h : (⟨s1, s2, S1, hS⟩ : SyF SS).In w) : SyIn s1 s2 S1 w := by
  subst hS
  exact ⟨h.1, h.2, by have := hz.s; rwa [List.length_map] at this, fun r hr => hz.t _ (List.mem_map_of_mem hr)⟩
theorem Course_nr (x : Cr) (w : World) (h : CrIn x w) : Calls Tryz.prog 30 #[x.v] w fun e w' => ∃ y : (Option Addr × Nat) × Rws x.CC, e = .returned (.agg #[.slice y.1.1 x.N.length y.1.2, iv x.wk, .slice y.2.o y.2.C.length y.2.c]) ∧ Below w.heap.size w w' ∧ St w.heap.size (crH x.N y) w' :=
  (Course_ok x w h).mono fun e w' ⟨na, y, h1, h2, h3⟩ => ⟨(na, y), h1, h2, h3⟩
section
variable {N : List Int} {wk : Int} {CC : List (List Int)} {SS : List (Int × List Int)} (hz : SzOk N CC SS) (n1 : Option Addr) (n2 : Nat) (c1 : Option Addr) (c2 : Nat) (C1 : List Rw) (hC : C1.map Rw.xs = CC) (s1 : Option Addr) (s2 : Nat) (S1 : List Sy) (hS : S1.map Sy.d = SS) (w : World)
  (h : crH N ((n1, n2), (⟨c1, c2, C1, hC⟩ : Rws CC)) w) (h' : (⟨s1, s2, S1, hS⟩ : SyF SS).In w)
include hz h
theorem Check_nr : Calls Tryz.prog 36 #[.agg #[.slice n1 N.length n2, iv wk, .slice c1 C1.length c2]] w fun e w' => e = .returned (iv (if crOk N wk CC = true then 0 else 1)) ∧ Below w.heap.size w w' := by
  have := CheckCourse_ok ⟨n1, n2, N, wk, c1, c2, C1⟩ w (crIn_of hz hC h)
  subst hC
  exact this
include h'
theorem Has_nr : Calls Tryz.prog 29 #[.agg #[.slice n1 N.length n2, iv wk, .slice c1 C1.length c2], .slice s1 S1.length s2] w fun e w' => ∃ y : (Option Addr × Nat) × (Option Addr × Nat), e = .returned (.tuple #[.slice y.1.1 (hasL N wk CC SS).length y.1.2, .slice y.2.1 (lefL N wk CC SS).length y.2.2, iv (ckE N wk CC SS)]) ∧ Below w.heap.size w w' ∧
    St w.heap.size (fun w2 => Rd 1 iF (.slice y.1.1 (hasL N wk CC SS).length y.1.2) (hasL N wk CC SS) w2 ∧ Rd 1 iF (.slice y.2.1 (lefL N wk CC SS).length y.2.2) (lefL N wk CC SS) w2) w' := by
  have := Has_ok ⟨n1, n2, N, wk, c1, c2, C1⟩ s1 s2 S1 w (crIn_of hz hC h) (syIn_of hz hS h')
  subst hC hS
  exact this
theorem Next_nr : Calls Tryz.prog 33 #[.agg #[.slice n1 N.length n2, iv wk, .slice c1 C1.length c2], .slice s1 S1.length s2] w fun e w' => ∃ y : Option Addr × Nat, e = .returned (.tuple #[.slice y.1 (nxtL N wk CC SS).length y.2, iv (nxE N wk CC SS)]) ∧ Below w.heap.size w w' ∧
    St w.heap.size (Rd 1 iF (.slice y.1 (nxtL N wk CC SS).length y.2) (nxtL N wk CC SS)) w' := by
  have := Next_ok ⟨n1, n2, N, wk, c1, c2, C1⟩ s1 s2 S1 w (crIn_of hz hC h) (syIn_of hz hS h')
  subst hC hS
  exact this
theorem Behind_nr : Calls Tryz.prog 35 #[.agg #[.slice n1 N.length n2, iv wk, .slice c1 C1.length c2], .slice s1 S1.length s2] w fun e w' => ∃ y : Option Addr × Nat, e = .returned (.tuple #[.slice y.1 (behL N wk CC SS).length y.2, iv (ckE N wk CC SS)]) ∧ Below w.heap.size w w' ∧
    St w.heap.size (Rd 1 iF (.slice y.1 (behL N wk CC SS).length y.2) (behL N wk CC SS)) w' := by
  have := Behind_ok ⟨n1, n2, N, wk, c1, c2, C1⟩ s1 s2 S1 w (crIn_of hz hC h) (syIn_of hz hS h')
  subst hC hS
  exact this
end

set_option maxHeartbeats 4000000 in
set_option maxRecDepth 100000 in
theorem Years_wide (x : Cr) (o : Option Addr) (c : Nat) (S : List Sy) (w : World) (hX : CrX x w) (hY : SyX o c S w) (ht : thB x.N x.CC = false ∨ shB (S.map Sy.d) = false) :
    Calls Tryz.prog 9 #[x.v, .slice o S.length c] w fun e w' => e = .returned (.bool true) ∧ Below w.heap.size w w' := by
  have h34 := fun w' hb => thin_ok x w' (hX.below hb)
  have h27 := fun w' hb => short_ok o c S w' (hY.below hb)
  obtain ⟨no, nc, N, wk, co, cc, C⟩ := x
  refine calls_val env mixed Tryz.func9 has9 Tryz.ntmps9 [.agg #[.slice no N.length nc, iv wk, .slice co C.length cc], .slice o S.length c] (by simp) ?_
  dsimp only at h34 h27 ht
  cases h1 : thB N (C.map Rw.xs) with
  | false =>
    rw [h1] at h34
    repeat'
     conv => whnf
     first
      | refine zA ?_ | refine zB ?_ | refine zC ?_ | refine zD ?_ | refine zE ?_ | refine zF ?_ | refine zG ?_ | refine zH ?_ | refine zJ ?_ | refine zI ?_ | refine splT ?_ | refine splF ?_ | refine splNot ?_
      | ((first | refine splIn (fun hc => ?_) (fun hc => ?_) | refine splD (fun hc => ?_) (fun hc => ?_) | refine splE (fun hc => ?_) (fun hc => ?_) | refine splNE (fun hc => ?_) (fun hc => ?_)) <;> first | (exfalso; omega) | (exfalso; dsimp only at hc; omega) | skip)
      | ((with_reducible show CallEv _ _ 16 _ _ _ _ _); refine callE (k := 16) (fun β w' hbw => awake_calls w') ?_)
      | ((with_reducible show CallEv _ _ 34 _ _ _ _ _); refine callE (k := 34) (fun β w' hbw => h34 w' hbw) ?_)
      | ((with_reducible show CallEv _ _ 27 _ _ _ _ _); refine callE (k := 27) (fun β w' hbw => h27 w' hbw) ?_)
    all_goals first | (exfalso; omega) | exact ⟨fun β => rfl, fun w' h => h⟩
  | true =>
    have h2 : shB (S.map Sy.d) = false := by
      rcases ht with h | h
      · exact absurd (h1.symm.trans h) (by decide)
      · exact h
    rw [h1] at h34
    rw [h2] at h27
    repeat'
     conv => whnf
     first
      | refine zA ?_ | refine zB ?_ | refine zC ?_ | refine zD ?_ | refine zE ?_ | refine zF ?_ | refine zG ?_ | refine zH ?_ | refine zJ ?_ | refine zI ?_ | refine splT ?_ | refine splF ?_ | refine splNot ?_
      | ((first | refine splIn (fun hc => ?_) (fun hc => ?_) | refine splD (fun hc => ?_) (fun hc => ?_) | refine splE (fun hc => ?_) (fun hc => ?_) | refine splNE (fun hc => ?_) (fun hc => ?_)) <;> first | (exfalso; omega) | (exfalso; dsimp only at hc; omega) | skip)
      | ((with_reducible show CallEv _ _ 16 _ _ _ _ _); refine callE (k := 16) (fun β w' hbw => awake_calls w') ?_)
      | ((with_reducible show CallEv _ _ 34 _ _ _ _ _); refine callE (k := 34) (fun β w' hbw => h34 w' hbw) ?_)
      | ((with_reducible show CallEv _ _ 27 _ _ _ _ _); refine callE (k := 27) (fun β w' hbw => h27 w' hbw) ?_)
    all_goals first | (exfalso; omega) | exact ⟨fun β => rfl, fun w' h => h⟩

set_option maxHeartbeats 4000000 in
set_option maxRecDepth 100000 in
theorem Years_bad (x : Cr) (o : Option Addr) (c : Nat) (S : List Sy) (w : World) (hX : CrX x w) (hY : SyX o c S w) (ht : thB x.N x.CC = true) (hs : shB (S.map Sy.d) = true) (hE : ckE x.N x.wk x.CC (S.map Sy.d) ≠ 0) :
    Calls Tryz.prog 9 #[x.v, .slice o S.length c] w fun e w' => e = .returned (.bool true) ∧ Below w.heap.size w w' := by
  have h34 := fun w' hb => thin_ok x w' (hX.below hb)
  have h27 := fun w' hb => short_ok o c S w' (hY.below hb)
  have hI := hX.cin ht
  have hJ := hY.sin hs
  have hz := SzOk.of hI hJ
  have h30 := fun w' hb => Course_nr x w' (hI.below hb)
  have h31 := fun w' hb => Stays_ok o c S w' (hJ.below hb)
  have h26 := fun w' hb => RightCourse_ok x w' (hI.below hb)
  have h28 := fun w' hb => StaysFault_ok x o c S w' (hI.below hb) (hJ.below hb)
  have h29 := @Has_nr x.N x.wk x.CC (S.map Sy.d) hz
  have h35 := @Behind_nr x.N x.wk x.CC (S.map Sy.d) hz
  have h33 := @Next_nr x.N x.wk x.CC (S.map Sy.d) hz
  have h36 := @Check_nr x.N x.wk x.CC (S.map Sy.d) hz
  rw [ht] at h34
  rw [hs] at h27
  unfold hasL lefL at h29
  unfold behL at h35
  unfold nxtL nxE at h33
  rw [if_neg hE] at h33
  rw [if_neg hE, if_neg hE] at h29
  rw [if_neg hE] at h35
  rw [if_neg hE] at h33
  clear hz hI hJ ht hs
  have hv : ckE x.N x.wk x.CC (S.map Sy.d) = if crOk x.N x.wk x.CC = true then stE x.N.length x.CC.length x.wk (S.map Sy.d) else 1 := rfl
  generalize stE x.N.length x.CC.length x.wk (S.map Sy.d) = F at *
  generalize ckE x.N x.wk x.CC (S.map Sy.d) = E at *
  obtain ⟨no, nc, N, wk, co, cc, C⟩ := x
  refine calls_val env mixed Tryz.func9 has9 Tryz.ntmps9 [.agg #[.slice no N.length nc, iv wk, .slice co C.length cc], .slice o S.length c] (by simp) ?_
  dsimp only at *
  cases hc : crOk N wk (C.map Rw.xs) with
  | false =>
    rw [hc] at h26 h36 hv
    rw [if_neg (by decide)] at hv h36
    subst hv
    repeat'
     conv => whnf
     first
      | refine zA ?_ | refine zB ?_ | refine zC ?_ | refine zD ?_ | refine zE ?_ | refine zF ?_ | refine zG ?_ | refine zH ?_ | refine zJ ?_ | refine zI ?_ | refine splT ?_ | refine splF ?_ | refine splNot ?_
      | ((first | refine splIn (fun hc => ?_) (fun hc => ?_) | refine splD (fun hc => ?_) (fun hc => ?_) | refine splE (fun hc => ?_) (fun hc => ?_) | refine splNE (fun hc => ?_) (fun hc => ?_)) <;> first | (exfalso; omega) | (exfalso; dsimp only at hc; omega) | skip)
      | ((with_reducible show CallEv _ _ 30 _ _ _ _ _); refine callF [] (fun y : (Option Addr × Nat) × Rws (C.map Rw.xs) => .agg #[.slice y.1.1 N.length y.1.2, iv wk, .slice y.2.o y.2.C.length y.2.c]) (fun y => crH N y) (fun β w' _ hbw => h30 w' (by first | exact hbw | exact hbw.1 | exact hbw.1.1 | exact hbw.1.1.1 | exact hbw.1.1.1.1 | exact hbw.1.1.1.1.1 | exact hbw.1.1.1.1.1.1 | exact hbw.1.1.1.1.1.1.1 | exact hbw.1.1.1.1.1.1.1.1 | exact hbw.1.1.1.1.1.1.1.1.1 | exact hbw.1.1.1.1.1.1.1.1.1.1 | exact hbw.1.1.1.1.1.1.1.1.1.1.1 | exact hbw.1.1.1.1.1.1.1.1.1.1.1.1 | exact hbw.1.1.1.1.1.1.1.1.1.1.1.1.1)) ?_; intro y; obtain ⟨⟨n1, n2⟩, ⟨c1, c2, C1, hC1⟩⟩ := y; dsimp only)
      | ((with_reducible show CallEv _ _ 31 _ _ _ _ _); refine callF [] (fun y : SyF (S.map Sy.d) => .slice y.o y.S.length y.c) (fun y => y.In) (fun β w' _ hbw => h31 w' (by first | exact hbw | exact hbw.1 | exact hbw.1.1 | exact hbw.1.1.1 | exact hbw.1.1.1.1 | exact hbw.1.1.1.1.1 | exact hbw.1.1.1.1.1.1 | exact hbw.1.1.1.1.1.1.1 | exact hbw.1.1.1.1.1.1.1.1 | exact hbw.1.1.1.1.1.1.1.1.1 | exact hbw.1.1.1.1.1.1.1.1.1.1 | exact hbw.1.1.1.1.1.1.1.1.1.1.1 | exact hbw.1.1.1.1.1.1.1.1.1.1.1.1 | exact hbw.1.1.1.1.1.1.1.1.1.1.1.1.1)) ?_; intro y; obtain ⟨s1, s2, S1, hS1⟩ := y; dsimp only)
      | ((with_reducible show CallEv _ _ 29 _ _ _ _ _); refine callF [] (fun y : (Option Addr × Nat) × (Option Addr × Nat) => .tuple #[.slice y.1.1 0 y.1.2, .slice y.2.1 0 y.2.2, iv 1]) (fun _ _ => True) (fun β w' _ hbw => (h29 n1 n2 c1 c2 C1 hC1 s1 s2 S1 hS1 w' hbw.1.2 hbw.2).mono fun e w' ⟨y, a, b, c⟩ => ⟨y, a, b, fun _ _ => trivial⟩) ?_; intro y; obtain ⟨⟨p1, q1⟩, ⟨p2, q2⟩⟩ := y; dsimp only)
      | ((with_reducible show CallEv _ _ 35 _ _ _ _ _); refine callF [] (fun y : Option Addr × Nat => .tuple #[.slice y.1 0 y.2, iv 1]) (fun _ _ => True) (fun β w' _ hbw => (h35 n1 n2 c1 c2 C1 hC1 s1 s2 S1 hS1 w' hbw.1.2 hbw.2).mono fun e w' ⟨y, a, b, c⟩ => ⟨y, a, b, fun _ _ => trivial⟩) ?_; intro y; obtain ⟨p3, q3⟩ := y; dsimp only)
      | ((with_reducible show CallEv _ _ 33 _ _ _ _ _); refine callF [] (fun y : Option Addr × Nat => .tuple #[.slice y.1 0 y.2, iv 1]) (fun _ _ => True) (fun β w' _ hbw => (h33 n1 n2 c1 c2 C1 hC1 s1 s2 S1 hS1 w' hbw.1.2 hbw.2).mono fun e w' ⟨y, a, b, c⟩ => ⟨y, a, b, fun _ _ => trivial⟩) ?_; intro y; obtain ⟨p4, q4⟩ := y; dsimp only)
      | ((with_reducible show CallEv _ _ 36 _ _ _ _ _); refine callE (k := 36) (fun β w' hbw => h36 n1 n2 c1 c2 C1 hC1 w' hbw.2) ?_)
      | ((with_reducible show CallEv _ _ 26 _ _ _ _ _); refine callE (k := 26) (fun β w' hbw => h26 w' (by first | exact hbw | exact hbw.1 | exact hbw.1.1 | exact hbw.1.1.1 | exact hbw.1.1.1.1 | exact hbw.1.1.1.1.1 | exact hbw.1.1.1.1.1.1 | exact hbw.1.1.1.1.1.1.1 | exact hbw.1.1.1.1.1.1.1.1 | exact hbw.1.1.1.1.1.1.1.1.1 | exact hbw.1.1.1.1.1.1.1.1.1.1 | exact hbw.1.1.1.1.1.1.1.1.1.1.1 | exact hbw.1.1.1.1.1.1.1.1.1.1.1.1 | exact hbw.1.1.1.1.1.1.1.1.1.1.1.1.1)) ?_)
      | ((with_reducible show CallEv _ _ 28 _ _ _ _ _); refine callE (k := 28) (fun β w' hbw => h28 w' (by first | exact hbw | exact hbw.1 | exact hbw.1.1 | exact hbw.1.1.1 | exact hbw.1.1.1.1 | exact hbw.1.1.1.1.1 | exact hbw.1.1.1.1.1.1 | exact hbw.1.1.1.1.1.1.1 | exact hbw.1.1.1.1.1.1.1.1 | exact hbw.1.1.1.1.1.1.1.1.1 | exact hbw.1.1.1.1.1.1.1.1.1.1 | exact hbw.1.1.1.1.1.1.1.1.1.1.1 | exact hbw.1.1.1.1.1.1.1.1.1.1.1.1 | exact hbw.1.1.1.1.1.1.1.1.1.1.1.1.1)) ?_)
      | ((with_reducible show CallEv _ _ 16 _ _ _ _ _); refine callE (k := 16) (fun β w' hbw => awake_calls w') ?_)
      | ((with_reducible show CallEv _ _ 34 _ _ _ _ _); refine callE (k := 34) (fun β w' hbw => h34 w' (by first | exact hbw | exact hbw.1 | exact hbw.1.1 | exact hbw.1.1.1 | exact hbw.1.1.1.1 | exact hbw.1.1.1.1.1 | exact hbw.1.1.1.1.1.1 | exact hbw.1.1.1.1.1.1.1 | exact hbw.1.1.1.1.1.1.1.1 | exact hbw.1.1.1.1.1.1.1.1.1 | exact hbw.1.1.1.1.1.1.1.1.1.1 | exact hbw.1.1.1.1.1.1.1.1.1.1.1 | exact hbw.1.1.1.1.1.1.1.1.1.1.1.1 | exact hbw.1.1.1.1.1.1.1.1.1.1.1.1.1)) ?_)
      | ((with_reducible show CallEv _ _ 27 _ _ _ _ _); refine callE (k := 27) (fun β w' hbw => h27 w' (by first | exact hbw | exact hbw.1 | exact hbw.1.1 | exact hbw.1.1.1 | exact hbw.1.1.1.1 | exact hbw.1.1.1.1.1 | exact hbw.1.1.1.1.1.1 | exact hbw.1.1.1.1.1.1.1 | exact hbw.1.1.1.1.1.1.1.1 | exact hbw.1.1.1.1.1.1.1.1.1 | exact hbw.1.1.1.1.1.1.1.1.1.1 | exact hbw.1.1.1.1.1.1.1.1.1.1.1 | exact hbw.1.1.1.1.1.1.1.1.1.1.1.1 | exact hbw.1.1.1.1.1.1.1.1.1.1.1.1.1)) ?_)
    all_goals first | (exfalso; omega) | exact ⟨fun β => rfl, fun w' h => by first | exact h | exact h.1 | exact h.1.1.1.1.1.1.1.1.1.1 | skip⟩
  | true =>
    rw [hc] at h26 h36 hv
    rw [if_pos rfl] at hv h36
    subst hv
    repeat'
     conv => whnf
     first
      | refine zA ?_ | refine zB ?_ | refine zC ?_ | refine zD ?_ | refine zE ?_ | refine zF ?_ | refine zG ?_ | refine zH ?_ | refine zJ ?_ | refine zI ?_ | refine splT ?_ | refine splF ?_ | refine splNot ?_
      | ((first | refine splIn (fun hc => ?_) (fun hc => ?_) | refine splD (fun hc => ?_) (fun hc => ?_) | refine splE (fun hc => ?_) (fun hc => ?_) | refine splNE (fun hc => ?_) (fun hc => ?_)) <;> first | (exfalso; omega) | (exfalso; dsimp only at hc; omega) | skip)
      | ((with_reducible show CallEv _ _ 30 _ _ _ _ _); refine callF [] (fun y : (Option Addr × Nat) × Rws (C.map Rw.xs) => .agg #[.slice y.1.1 N.length y.1.2, iv wk, .slice y.2.o y.2.C.length y.2.c]) (fun y => crH N y) (fun β w' _ hbw => h30 w' (by first | exact hbw | exact hbw.1 | exact hbw.1.1 | exact hbw.1.1.1 | exact hbw.1.1.1.1 | exact hbw.1.1.1.1.1 | exact hbw.1.1.1.1.1.1 | exact hbw.1.1.1.1.1.1.1 | exact hbw.1.1.1.1.1.1.1.1 | exact hbw.1.1.1.1.1.1.1.1.1 | exact hbw.1.1.1.1.1.1.1.1.1.1 | exact hbw.1.1.1.1.1.1.1.1.1.1.1 | exact hbw.1.1.1.1.1.1.1.1.1.1.1.1 | exact hbw.1.1.1.1.1.1.1.1.1.1.1.1.1)) ?_; intro y; obtain ⟨⟨n1, n2⟩, ⟨c1, c2, C1, hC1⟩⟩ := y; dsimp only)
      | ((with_reducible show CallEv _ _ 31 _ _ _ _ _); refine callF [] (fun y : SyF (S.map Sy.d) => .slice y.o y.S.length y.c) (fun y => y.In) (fun β w' _ hbw => h31 w' (by first | exact hbw | exact hbw.1 | exact hbw.1.1 | exact hbw.1.1.1 | exact hbw.1.1.1.1 | exact hbw.1.1.1.1.1 | exact hbw.1.1.1.1.1.1 | exact hbw.1.1.1.1.1.1.1 | exact hbw.1.1.1.1.1.1.1.1 | exact hbw.1.1.1.1.1.1.1.1.1 | exact hbw.1.1.1.1.1.1.1.1.1.1 | exact hbw.1.1.1.1.1.1.1.1.1.1.1 | exact hbw.1.1.1.1.1.1.1.1.1.1.1.1 | exact hbw.1.1.1.1.1.1.1.1.1.1.1.1.1)) ?_; intro y; obtain ⟨s1, s2, S1, hS1⟩ := y; dsimp only)
      | ((with_reducible show CallEv _ _ 29 _ _ _ _ _); refine callF [] (fun y : (Option Addr × Nat) × (Option Addr × Nat) => .tuple #[.slice y.1.1 0 y.1.2, .slice y.2.1 0 y.2.2, iv E]) (fun _ _ => True) (fun β w' _ hbw => (h29 n1 n2 c1 c2 C1 hC1 s1 s2 S1 hS1 w' hbw.1.2 hbw.2).mono fun e w' ⟨y, a, b, c⟩ => ⟨y, a, b, fun _ _ => trivial⟩) ?_; intro y; obtain ⟨⟨p1, q1⟩, ⟨p2, q2⟩⟩ := y; dsimp only)
      | ((with_reducible show CallEv _ _ 35 _ _ _ _ _); refine callF [] (fun y : Option Addr × Nat => .tuple #[.slice y.1 0 y.2, iv E]) (fun _ _ => True) (fun β w' _ hbw => (h35 n1 n2 c1 c2 C1 hC1 s1 s2 S1 hS1 w' hbw.1.2 hbw.2).mono fun e w' ⟨y, a, b, c⟩ => ⟨y, a, b, fun _ _ => trivial⟩) ?_; intro y; obtain ⟨p3, q3⟩ := y; dsimp only)
      | ((with_reducible show CallEv _ _ 33 _ _ _ _ _); refine callF [] (fun y : Option Addr × Nat => .tuple #[.slice y.1 0 y.2, iv E]) (fun _ _ => True) (fun β w' _ hbw => (h33 n1 n2 c1 c2 C1 hC1 s1 s2 S1 hS1 w' hbw.1.2 hbw.2).mono fun e w' ⟨y, a, b, c⟩ => ⟨y, a, b, fun _ _ => trivial⟩) ?_; intro y; obtain ⟨p4, q4⟩ := y; dsimp only)
      | ((with_reducible show CallEv _ _ 36 _ _ _ _ _); refine callE (k := 36) (fun β w' hbw => h36 n1 n2 c1 c2 C1 hC1 w' hbw.2) ?_)
      | ((with_reducible show CallEv _ _ 26 _ _ _ _ _); refine callE (k := 26) (fun β w' hbw => h26 w' (by first | exact hbw | exact hbw.1 | exact hbw.1.1 | exact hbw.1.1.1 | exact hbw.1.1.1.1 | exact hbw.1.1.1.1.1 | exact hbw.1.1.1.1.1.1 | exact hbw.1.1.1.1.1.1.1 | exact hbw.1.1.1.1.1.1.1.1 | exact hbw.1.1.1.1.1.1.1.1.1 | exact hbw.1.1.1.1.1.1.1.1.1.1 | exact hbw.1.1.1.1.1.1.1.1.1.1.1 | exact hbw.1.1.1.1.1.1.1.1.1.1.1.1 | exact hbw.1.1.1.1.1.1.1.1.1.1.1.1.1)) ?_)
      | ((with_reducible show CallEv _ _ 28 _ _ _ _ _); refine callE (k := 28) (fun β w' hbw => h28 w' (by first | exact hbw | exact hbw.1 | exact hbw.1.1 | exact hbw.1.1.1 | exact hbw.1.1.1.1 | exact hbw.1.1.1.1.1 | exact hbw.1.1.1.1.1.1 | exact hbw.1.1.1.1.1.1.1 | exact hbw.1.1.1.1.1.1.1.1 | exact hbw.1.1.1.1.1.1.1.1.1 | exact hbw.1.1.1.1.1.1.1.1.1.1 | exact hbw.1.1.1.1.1.1.1.1.1.1.1 | exact hbw.1.1.1.1.1.1.1.1.1.1.1.1 | exact hbw.1.1.1.1.1.1.1.1.1.1.1.1.1)) ?_)
      | ((with_reducible show CallEv _ _ 16 _ _ _ _ _); refine callE (k := 16) (fun β w' hbw => awake_calls w') ?_)
      | ((with_reducible show CallEv _ _ 34 _ _ _ _ _); refine callE (k := 34) (fun β w' hbw => h34 w' (by first | exact hbw | exact hbw.1 | exact hbw.1.1 | exact hbw.1.1.1 | exact hbw.1.1.1.1 | exact hbw.1.1.1.1.1 | exact hbw.1.1.1.1.1.1 | exact hbw.1.1.1.1.1.1.1 | exact hbw.1.1.1.1.1.1.1.1 | exact hbw.1.1.1.1.1.1.1.1.1 | exact hbw.1.1.1.1.1.1.1.1.1.1 | exact hbw.1.1.1.1.1.1.1.1.1.1.1 | exact hbw.1.1.1.1.1.1.1.1.1.1.1.1 | exact hbw.1.1.1.1.1.1.1.1.1.1.1.1.1)) ?_)
      | ((with_reducible show CallEv _ _ 27 _ _ _ _ _); refine callE (k := 27) (fun β w' hbw => h27 w' (by first | exact hbw | exact hbw.1 | exact hbw.1.1 | exact hbw.1.1.1 | exact hbw.1.1.1.1 | exact hbw.1.1.1.1.1 | exact hbw.1.1.1.1.1.1 | exact hbw.1.1.1.1.1.1.1 | exact hbw.1.1.1.1.1.1.1.1 | exact hbw.1.1.1.1.1.1.1.1.1 | exact hbw.1.1.1.1.1.1.1.1.1.1 | exact hbw.1.1.1.1.1.1.1.1.1.1.1 | exact hbw.1.1.1.1.1.1.1.1.1.1.1.1 | exact hbw.1.1.1.1.1.1.1.1.1.1.1.1.1)) ?_)
    all_goals first | (exfalso; omega) | exact ⟨fun β => rfl, fun w' h => by first | exact h | exact h.1 | exact h.1.1.1.1.1.1.1.1.1.1 | skip⟩

def aK (CC : List (List Int)) (SS : List (Int × List Int)) (k : Nat) : List Int := (List.range k).map (hsV CC SS)
def bK (N : List Int) (CC : List (List Int)) (SS : List (Int × List Int)) (k : Nat) : List Int := (List.range k).map (lfV N CC SS)
def xK (N : List Int) (wk : Int) (CC : List (List Int)) (SS : List (Int × List Int)) (k : Nat) : List Int := (List.range k).map (nxV N wk CC SS)
def zK (k : Nat) : List Int := []
theorem rmap_succ (g : Nat → Int) (k : Nat) : (List.range (k + 1)).map g = (List.range k).map g ++ [g k] := by rw [List.range_succ, List.map_append]; rfl
theorem rmap_len (g : Nat → Int) (k : Nat) : ((List.range k).map g).length = k := by simp
theorem own_now {m : Nat} {L : List Int} {a b : Nat} {w : World} (hn : m = L.length) (h : w.ownsRow 0 3 1 (.slice (some ⟨a, 0, none⟩) m b) m (L.flatMap iF)) : Rd 1 iF (.slice (some ⟨a, 0, none⟩) m b) L w := Rd.of_owns (sz := 1) (f := iF) (fun _ => rfl) rfl hn h

set_option maxHeartbeats 4000000 in
set_option maxRecDepth 100000 in
theorem Years_good1 (x : Cr) (o : Option Addr) (c : Nat) (S : List Sy) (w : World) (hX : CrX x w) (hY : SyX o c S w) (ht : thB x.N x.CC = true) (hs : shB (S.map Sy.d) = true) (hE : ckE x.N x.wk x.CC (S.map Sy.d) = 0) (hlt : (S.length : Int) < x.wk) :
    Calls Tryz.prog 9 #[x.v, .slice o S.length c] w fun e w' => e = .returned (.bool true) ∧ Below w.heap.size w w' := by
  have h34 := fun w' hb => thin_ok x w' (hX.below hb)
  have h27 := fun w' hb => short_ok o c S w' (hY.below hb)
  have hI := hX.cin ht
  have hJ := hY.sin hs
  have hz := SzOk.of hI hJ
  have hy := YrOk.of hE
  have h30 := fun w' hb => Course_nr x w' (hI.below hb)
  have h31 := fun w' hb => Stays_ok o c S w' (hJ.below hb)
  have h26 := fun w' hb => RightCourse_ok x w' (hI.below hb)
  have h28 := fun w' hb => StaysFault_ok x o c S w' (hI.below hb) (hJ.below hb)
  have h29 := @Has_nr x.N x.wk x.CC (S.map Sy.d) hz
  have h35 := @Behind_nr x.N x.wk x.CC (S.map Sy.d) hz
  have h33 := @Next_nr x.N x.wk x.CC (S.map Sy.d) hz
  have h36 := @Check_nr x.N x.wk x.CC (S.map Sy.d) hz
  have h37 := fun k hk w' hb => HasR_ok x o c S k w' (hI.below hb) (hJ.below hb) hy hk
  have h38 := fun k hk w' hb => LeftR_ok x o c S k w' (hI.below hb) (hJ.below hb) hy hk
  have h39 := fun k hk w' hb => BehindR_ok x o c S k w' (hI.below hb) (hJ.below hb) hy hk
  have h40 := fun k hk w' hb => NextR_ok x o c S k w' (hI.below hb) (hJ.below hb) hy hk hlt
  have hn6 := hy.n6
  have hsl := hJ.sl
  have hN := hI.n
  rw [ht] at h34
  rw [hs] at h27
  have hsm : (S.map Sy.d).length = S.length := List.length_map ..
  have hcr : crOk x.N x.wk x.CC = true := by
    cases h : crOk x.N x.wk x.CC with
    | true => rfl
    | false => unfold ckE at hE; rw [h, if_neg (by decide)] at hE; cases hE
  have hst : stE x.N.length x.CC.length x.wk (S.map Sy.d) = 0 := by
    unfold ckE at hE; rwa [hcr, if_pos rfl] at hE
  rw [hcr] at h26 h36
  rw [if_pos rfl] at h36
  rw [hst] at h28
  unfold hasL lefL at h29
  unfold behL at h35
  unfold nxtL nxE at h33
  rw [if_pos hE, if_pos hE, hE] at h29
  rw [if_pos hE, hE] at h35
  rw [if_pos hE, hsm, if_neg (show ¬ (S.length : Int) = x.wk by omega), if_pos rfl] at h33
  clear hz hI hJ ht hs hst hcr hy hE
  obtain ⟨no, nc, N, wk, co, cc, C⟩ := x
  refine calls_val env mixed Tryz.func9 has9 Tryz.ntmps9 [.agg #[.slice no N.length nc, iv wk, .slice co C.length cc], .slice o S.length c] (by simp) ?_
  dsimp only at *
  repeat'
   conv => whnf
   first
    | refine zA ?_ | refine zB ?_ | refine zC ?_ | refine zD ?_ | refine zE ?_ | refine zF ?_ | refine zG ?_ | refine zH ?_ | refine zJ ?_ | refine zI ?_ | refine splT ?_ | refine splF ?_ | refine splNot ?_
    | ((first | refine splIn (fun hc => ?_) (fun hc => ?_) | refine splD (fun hc => ?_) (fun hc => ?_) | refine splE (fun hc => ?_) (fun hc => ?_) | refine splNE (fun hc => ?_) (fun hc => ?_)) <;> first | (exfalso; omega) | (exfalso; dsimp only at hc; omega) | skip)
    | ((with_reducible show CallEv _ _ 30 _ _ _ _ _); refine callF [] (fun y : (Option Addr × Nat) × Rws (C.map Rw.xs) => .agg #[.slice y.1.1 N.length y.1.2, iv wk, .slice y.2.o y.2.C.length y.2.c]) (fun y => crH N y) (fun β w' _ hbw => h30 w' (by first | exact hbw | exact hbw.1 | exact hbw.1.1 | exact hbw.1.1.1 | exact hbw.1.1.1.1 | exact hbw.1.1.1.1.1 | exact hbw.1.1.1.1.1.1 | exact hbw.1.1.1.1.1.1.1 | exact hbw.1.1.1.1.1.1.1.1 | exact hbw.1.1.1.1.1.1.1.1.1 | exact hbw.1.1.1.1.1.1.1.1.1.1 | exact hbw.1.1.1.1.1.1.1.1.1.1.1 | exact hbw.1.1.1.1.1.1.1.1.1.1.1.1 | exact hbw.1.1.1.1.1.1.1.1.1.1.1.1.1)) ?_; intro y; obtain ⟨⟨n1, n2⟩, ⟨c1, c2, C1, hC1⟩⟩ := y; dsimp only)
    | ((with_reducible show CallEv _ _ 31 _ _ _ _ _); refine callF [] (fun y : SyF (S.map Sy.d) => .slice y.o y.S.length y.c) (fun y => y.In) (fun β w' _ hbw => h31 w' (by first | exact hbw | exact hbw.1 | exact hbw.1.1 | exact hbw.1.1.1 | exact hbw.1.1.1.1 | exact hbw.1.1.1.1.1 | exact hbw.1.1.1.1.1.1 | exact hbw.1.1.1.1.1.1.1 | exact hbw.1.1.1.1.1.1.1.1 | exact hbw.1.1.1.1.1.1.1.1.1 | exact hbw.1.1.1.1.1.1.1.1.1.1 | exact hbw.1.1.1.1.1.1.1.1.1.1.1 | exact hbw.1.1.1.1.1.1.1.1.1.1.1.1 | exact hbw.1.1.1.1.1.1.1.1.1.1.1.1.1)) ?_; intro y; obtain ⟨s1, s2, S1, hS1⟩ := y; dsimp only)
    | ((with_reducible show CallEv _ _ 29 _ _ _ _ _); refine callF [] (fun y : (Option Addr × Nat) × (Option Addr × Nat) => .tuple #[.slice y.1.1 (aK (C.map Rw.xs) (S.map Sy.d) N.length).length y.1.2, .slice y.2.1 (bK N (C.map Rw.xs) (S.map Sy.d) N.length).length y.2.2, iv 0]) (fun y w2 => Rd 1 iF (.slice y.1.1 (aK (C.map Rw.xs) (S.map Sy.d) N.length).length y.1.2) (aK (C.map Rw.xs) (S.map Sy.d) N.length) w2 ∧ Rd 1 iF (.slice y.2.1 (bK N (C.map Rw.xs) (S.map Sy.d) N.length).length y.2.2) (bK N (C.map Rw.xs) (S.map Sy.d) N.length) w2) (fun β w' _ hbw => h29 n1 n2 c1 c2 C1 hC1 s1 s2 S1 hS1 w' hbw.1.2 hbw.2) ?_; intro y; obtain ⟨⟨p1, q1⟩, ⟨p2, q2⟩⟩ := y; dsimp only)
    | ((with_reducible show CallEv _ _ 35 _ _ _ _ _); refine callF [] (fun y : Option Addr × Nat => .tuple #[.slice y.1 (bhK N wk (C.map Rw.xs) (S.map Sy.d) N.length).length y.2, iv 0]) (fun y w2 => Rd 1 iF (.slice y.1 (bhK N wk (C.map Rw.xs) (S.map Sy.d) N.length).length y.2) (bhK N wk (C.map Rw.xs) (S.map Sy.d) N.length) w2) (fun β w' _ hbw => h35 n1 n2 c1 c2 C1 hC1 s1 s2 S1 hS1 w' hbw.1.2 hbw.2) ?_; intro y; obtain ⟨p3, q3⟩ := y; dsimp only)
    | ((with_reducible show CallEv _ _ 33 _ _ _ _ _); refine callF [] (fun y : Option Addr × Nat => .tuple #[.slice y.1 (xK N wk (C.map Rw.xs) (S.map Sy.d) N.length).length y.2, iv 0]) (fun y w2 => Rd 1 iF (.slice y.1 (xK N wk (C.map Rw.xs) (S.map Sy.d) N.length).length y.2) (xK N wk (C.map Rw.xs) (S.map Sy.d) N.length) w2) (fun β w' _ hbw => h33 n1 n2 c1 c2 C1 hC1 s1 s2 S1 hS1 w' hbw.1.2 hbw.2) ?_; intro y; obtain ⟨p4, q4⟩ := y; dsimp only)
    | ((with_reducible show CallEv _ _ 36 _ _ _ _ _); refine callE (k := 36) (fun β w' hbw => h36 n1 n2 c1 c2 C1 hC1 w' hbw.2) ?_)
    | ((with_reducible show CallEv _ _ 26 _ _ _ _ _); refine callE (k := 26) (fun β w' hbw => h26 w' (by first | exact hbw | exact hbw.1 | exact hbw.1.1 | exact hbw.1.1.1 | exact hbw.1.1.1.1 | exact hbw.1.1.1.1.1 | exact hbw.1.1.1.1.1.1 | exact hbw.1.1.1.1.1.1.1 | exact hbw.1.1.1.1.1.1.1.1 | exact hbw.1.1.1.1.1.1.1.1.1 | exact hbw.1.1.1.1.1.1.1.1.1.1 | exact hbw.1.1.1.1.1.1.1.1.1.1.1 | exact hbw.1.1.1.1.1.1.1.1.1.1.1.1 | exact hbw.1.1.1.1.1.1.1.1.1.1.1.1.1)) ?_)
    | ((with_reducible show CallEv _ _ 28 _ _ _ _ _); refine callE (k := 28) (fun β w' hbw => h28 w' (by first | exact hbw | exact hbw.1 | exact hbw.1.1 | exact hbw.1.1.1 | exact hbw.1.1.1.1 | exact hbw.1.1.1.1.1 | exact hbw.1.1.1.1.1.1 | exact hbw.1.1.1.1.1.1.1 | exact hbw.1.1.1.1.1.1.1.1 | exact hbw.1.1.1.1.1.1.1.1.1 | exact hbw.1.1.1.1.1.1.1.1.1.1 | exact hbw.1.1.1.1.1.1.1.1.1.1.1 | exact hbw.1.1.1.1.1.1.1.1.1.1.1.1 | exact hbw.1.1.1.1.1.1.1.1.1.1.1.1.1)) ?_)
    | ((with_reducible show CallEv _ _ 16 _ _ _ _ _); refine callE (k := 16) (fun β w' hbw => awake_calls w') ?_)
    | ((with_reducible show CallEv _ _ 34 _ _ _ _ _); refine callE (k := 34) (fun β w' hbw => h34 w' (by first | exact hbw | exact hbw.1 | exact hbw.1.1 | exact hbw.1.1.1 | exact hbw.1.1.1.1 | exact hbw.1.1.1.1.1 | exact hbw.1.1.1.1.1.1 | exact hbw.1.1.1.1.1.1.1 | exact hbw.1.1.1.1.1.1.1.1 | exact hbw.1.1.1.1.1.1.1.1.1 | exact hbw.1.1.1.1.1.1.1.1.1.1 | exact hbw.1.1.1.1.1.1.1.1.1.1.1 | exact hbw.1.1.1.1.1.1.1.1.1.1.1.1 | exact hbw.1.1.1.1.1.1.1.1.1.1.1.1.1)) ?_)
    | ((with_reducible show CallEv _ _ 27 _ _ _ _ _); refine callE (k := 27) (fun β w' hbw => h27 w' (by first | exact hbw | exact hbw.1 | exact hbw.1.1 | exact hbw.1.1.1 | exact hbw.1.1.1.1 | exact hbw.1.1.1.1.1 | exact hbw.1.1.1.1.1.1 | exact hbw.1.1.1.1.1.1.1 | exact hbw.1.1.1.1.1.1.1.1 | exact hbw.1.1.1.1.1.1.1.1.1 | exact hbw.1.1.1.1.1.1.1.1.1.1 | exact hbw.1.1.1.1.1.1.1.1.1.1.1 | exact hbw.1.1.1.1.1.1.1.1.1.1.1.1 | exact hbw.1.1.1.1.1.1.1.1.1.1.1.1.1)) ?_)
  all_goals first | (exfalso; omega) | skip
  conv => whnf
  refine loopN 9 (fun k : Nat => [(1, .v (.slice o S.length c)), (2, .ptr 0 0), (5, .v (.slice p1 (aK (C.map Rw.xs) (S.map Sy.d) N.length).length q1)), (6, .v (.slice p2 (bK N (C.map Rw.xs) (S.map Sy.d) N.length).length q2)), (7, .v (iv 0)), (8, .v (.slice p3 (bhK N wk (C.map Rw.xs) (S.map Sy.d) N.length).length q3)), (9, .v (iv 0)), (10, .v (.slice p4 (xK N wk (C.map Rw.xs) (S.map Sy.d) N.length).length q4)), (11, .v (iv 0)),
      (14, oSV 1 2 (aK (C.map Rw.xs) (S.map Sy.d) k)), (15, oSV 3 4 (bK N (C.map Rw.xs) (S.map Sy.d) k)), (16, oSV 5 6 (bhK N wk (C.map Rw.xs) (S.map Sy.d) k)), (17, oSV 7 8 (xK N wk (C.map Rw.xs) (S.map Sy.d) k)), (18, .v (iv k))])
    (fun k => (0, .cells [.v (.slice no N.length nc), .v (iv wk), .v (.slice co C.length cc)] 56) :: (oM 1 2 1 iF 3 (aK (C.map Rw.xs) (S.map Sy.d) k) ++ (oM 3 4 1 iF 3 (bK N (C.map Rw.xs) (S.map Sy.d) k) ++ (oM 5 6 1 iF 3 (bhK N wk (C.map Rw.xs) (S.map Sy.d) k) ++ oM 7 8 1 iF 3 (xK N wk (C.map Rw.xs) (S.map Sy.d) k)))))
    (fun k => k ≤ N.length) (fun k => N.length - k) 0 (Nat.zero_le _) ⟨rfl, rfl, rfl, rfl, rfl, rfl, rfl, rfl, rfl, rfl, rfl, rfl, rfl, rfl, trivial⟩ ⟨rfl, trivial⟩ (fun k _ => by cases aK (C.map Rw.xs) (S.map Sy.d) k <;> cases bK N (C.map Rw.xs) (S.map Sy.d) k <;> cases bhK N wk (C.map Rw.xs) (S.map Sy.d) k <;> cases xK N wk (C.map Rw.xs) (S.map Sy.d) k <;> exact ⟨rfl, rfl⟩) ?_
  intro k hk
  rcases Nat.lt_or_ge k N.length with hkl | hkl
  · have hTA : aK (C.map Rw.xs) (S.map Sy.d) (k + 1) = aK (C.map Rw.xs) (S.map Sy.d) k ++ [hsV (C.map Rw.xs) (S.map Sy.d) k] := rmap_succ _ k
    have hTB : bK N (C.map Rw.xs) (S.map Sy.d) (k + 1) = bK N (C.map Rw.xs) (S.map Sy.d) k ++ [lfV N (C.map Rw.xs) (S.map Sy.d) k] := rmap_succ _ k
    have hTD := bhK_succ N wk (C.map Rw.xs) (S.map Sy.d) k
    have hLA : (aK (C.map Rw.xs) (S.map Sy.d) k).length = k := rmap_len _ k
    have hLB : (bK N (C.map Rw.xs) (S.map Sy.d) k).length = k := rmap_len _ k
    have hLD := bhK_len N wk (C.map Rw.xs) (S.map Sy.d) k
    have hTX : xK N wk (C.map Rw.xs) (S.map Sy.d) (k + 1) = xK N wk (C.map Rw.xs) (S.map Sy.d) k ++ [nxV N wk (C.map Rw.xs) (S.map Sy.d) k] := rmap_succ _ k
    have hLX : (xK N wk (C.map Rw.xs) (S.map Sy.d) k).length = k := rmap_len _ k
    have h39k := h39 k hkl
    have h37k := h37 k hkl
    have h38k := h38 k hkl
    have h40k := h40 k hkl
    generalize hgA : aK (C.map Rw.xs) (S.map Sy.d) k = TA at *
    generalize hgB : bK N (C.map Rw.xs) (S.map Sy.d) k = TB at *
    generalize hgD : bhK N wk (C.map Rw.xs) (S.map Sy.d) k = TD at *
    generalize hgX : xK N wk (C.map Rw.xs) (S.map Sy.d) k = TX at *
    cases TA with
    | nil =>
      simp only [List.length_nil] at hLA
      cases TB with
      | cons b TB => simp only [List.length_cons] at hLB; omega
      | nil =>
      cases TX with
      | cons b TX => simp only [List.length_cons] at hLX; omega
      | nil =>
      cases hbk : bhB N wk (C.map Rw.xs) (S.map Sy.d) k with
      | true =>
        rw [hbk] at h39k hTD
        rw [if_pos rfl] at hTD
        cases TD with
        | cons d TD => simp only [List.length_cons] at hLD; omega
        | nil =>
          repeat'
           conv => whnf
           first
            | refine zA ?_ | refine zB ?_ | refine zC ?_ | refine zD ?_ | refine zE ?_ | refine zF ?_ | refine zG ?_ | refine zH ?_ | refine zJ ?_ | refine zI ?_ | refine splT ?_ | refine splF ?_ | refine splNot ?_
            | ((first | refine splIn (fun hc => ?_) (fun hc => ?_) | refine splD (fun hc => ?_) (fun hc => ?_) | refine splE (fun hc => ?_) (fun hc => ?_) | refine splNE (fun hc => ?_) (fun hc => ?_)) <;> first | (exfalso; omega) | (exfalso; dsimp only at hc; omega) | skip)
            | ((with_reducible show CallEv _ _ 37 _ _ _ _ _); refine callE (k := 37) (fun β w' hbw => h37k _ (by first | exact hbw | exact hbw.1 | exact hbw.1.1 | exact hbw.1.1.1 | exact hbw.1.1.1.1 | exact hbw.1.1.1.1.1 | exact hbw.1.1.1.1.1.1 | exact hbw.1.1.1.1.1.1.1 | exact hbw.1.1.1.1.1.1.1.1 | exact hbw.1.1.1.1.1.1.1.1.1 | exact hbw.1.1.1.1.1.1.1.1.1.1 | exact hbw.1.1.1.1.1.1.1.1.1.1.1 | exact hbw.1.1.1.1.1.1.1.1.1.1.1.1 | exact hbw.1.1.1.1.1.1.1.1.1.1.1.1.1)) ?_)
            | ((with_reducible show CallEv _ _ 38 _ _ _ _ _); refine callE (k := 38) (fun β w' hbw => h38k _ (by first | exact hbw | exact hbw.1 | exact hbw.1.1 | exact hbw.1.1.1 | exact hbw.1.1.1.1 | exact hbw.1.1.1.1.1 | exact hbw.1.1.1.1.1.1 | exact hbw.1.1.1.1.1.1.1 | exact hbw.1.1.1.1.1.1.1.1 | exact hbw.1.1.1.1.1.1.1.1.1 | exact hbw.1.1.1.1.1.1.1.1.1.1 | exact hbw.1.1.1.1.1.1.1.1.1.1.1 | exact hbw.1.1.1.1.1.1.1.1.1.1.1.1 | exact hbw.1.1.1.1.1.1.1.1.1.1.1.1.1)) ?_)
            | ((with_reducible show CallEv _ _ 39 _ _ _ _ _); refine callE (k := 39) (fun β w' hbw => h39k _ (by first | exact hbw | exact hbw.1 | exact hbw.1.1 | exact hbw.1.1.1 | exact hbw.1.1.1.1 | exact hbw.1.1.1.1.1 | exact hbw.1.1.1.1.1.1 | exact hbw.1.1.1.1.1.1.1 | exact hbw.1.1.1.1.1.1.1.1 | exact hbw.1.1.1.1.1.1.1.1.1 | exact hbw.1.1.1.1.1.1.1.1.1.1 | exact hbw.1.1.1.1.1.1.1.1.1.1.1 | exact hbw.1.1.1.1.1.1.1.1.1.1.1.1 | exact hbw.1.1.1.1.1.1.1.1.1.1.1.1.1)) ?_)
            | ((with_reducible show CallEv _ _ 40 _ _ _ _ _); refine callE (k := 40) (fun β w' hbw => h40k _ (by first | exact hbw | exact hbw.1 | exact hbw.1.1 | exact hbw.1.1.1 | exact hbw.1.1.1.1 | exact hbw.1.1.1.1.1 | exact hbw.1.1.1.1.1.1 | exact hbw.1.1.1.1.1.1.1 | exact hbw.1.1.1.1.1.1.1.1 | exact hbw.1.1.1.1.1.1.1.1.1 | exact hbw.1.1.1.1.1.1.1.1.1.1 | exact hbw.1.1.1.1.1.1.1.1.1.1.1 | exact hbw.1.1.1.1.1.1.1.1.1.1.1.1 | exact hbw.1.1.1.1.1.1.1.1.1.1.1.1.1)) ?_)
          all_goals first
            | (exfalso; omega)
            | exact ⟨k + 1, by omega, by omega, Ent.ren (rho [(1, 10), (2, 11), (3, 13), (4, 14), (5, 16), (6, 17), (7, 19), (8, 20)]) rfl (by rw [hTA, hTB, hTD, hTX]; rfl) ⟨rfl, rfl, rfl, rfl, rfl, rfl, rfl, rfl, rfl, by rw [hTA]; rfl, by rw [hTB]; rfl, by rw [hTD]; rfl, by rw [hTX]; rfl, rfl, trivial⟩ (by rw [hTA, hTB, hTD, hTX]; exact ⟨rfl, rfl, rfl, rfl, rfl, trivial⟩) fun _ h => h⟩
      | false =>
        rw [hbk] at h39k hTD
        rw [if_neg (by decide), List.append_nil] at hTD
        cases TD with
        | cons d TD => simp only [List.length_cons] at hLD; omega
        | nil =>
          repeat'
           conv => whnf
           first
            | refine zA ?_ | refine zB ?_ | refine zC ?_ | refine zD ?_ | refine zE ?_ | refine zF ?_ | refine zG ?_ | refine zH ?_ | refine zJ ?_ | refine zI ?_ | refine splT ?_ | refine splF ?_ | refine splNot ?_
            | ((first | refine splIn (fun hc => ?_) (fun hc => ?_) | refine splD (fun hc => ?_) (fun hc => ?_) | refine splE (fun hc => ?_) (fun hc => ?_) | refine splNE (fun hc => ?_) (fun hc => ?_)) <;> first | (exfalso; omega) | (exfalso; dsimp only at hc; omega) | skip)
            | ((with_reducible show CallEv _ _ 37 _ _ _ _ _); refine callE (k := 37) (fun β w' hbw => h37k _ (by first | exact hbw | exact hbw.1 | exact hbw.1.1 | exact hbw.1.1.1 | exact hbw.1.1.1.1 | exact hbw.1.1.1.1.1 | exact hbw.1.1.1.1.1.1 | exact hbw.1.1.1.1.1.1.1 | exact hbw.1.1.1.1.1.1.1.1 | exact hbw.1.1.1.1.1.1.1.1.1 | exact hbw.1.1.1.1.1.1.1.1.1.1 | exact hbw.1.1.1.1.1.1.1.1.1.1.1 | exact hbw.1.1.1.1.1.1.1.1.1.1.1.1 | exact hbw.1.1.1.1.1.1.1.1.1.1.1.1.1)) ?_)
            | ((with_reducible show CallEv _ _ 38 _ _ _ _ _); refine callE (k := 38) (fun β w' hbw => h38k _ (by first | exact hbw | exact hbw.1 | exact hbw.1.1 | exact hbw.1.1.1 | exact hbw.1.1.1.1 | exact hbw.1.1.1.1.1 | exact hbw.1.1.1.1.1.1 | exact hbw.1.1.1.1.1.1.1 | exact hbw.1.1.1.1.1.1.1.1 | exact hbw.1.1.1.1.1.1.1.1.1 | exact hbw.1.1.1.1.1.1.1.1.1.1 | exact hbw.1.1.1.1.1.1.1.1.1.1.1 | exact hbw.1.1.1.1.1.1.1.1.1.1.1.1 | exact hbw.1.1.1.1.1.1.1.1.1.1.1.1.1)) ?_)
            | ((with_reducible show CallEv _ _ 39 _ _ _ _ _); refine callE (k := 39) (fun β w' hbw => h39k _ (by first | exact hbw | exact hbw.1 | exact hbw.1.1 | exact hbw.1.1.1 | exact hbw.1.1.1.1 | exact hbw.1.1.1.1.1 | exact hbw.1.1.1.1.1.1 | exact hbw.1.1.1.1.1.1.1 | exact hbw.1.1.1.1.1.1.1.1 | exact hbw.1.1.1.1.1.1.1.1.1 | exact hbw.1.1.1.1.1.1.1.1.1.1 | exact hbw.1.1.1.1.1.1.1.1.1.1.1 | exact hbw.1.1.1.1.1.1.1.1.1.1.1.1 | exact hbw.1.1.1.1.1.1.1.1.1.1.1.1.1)) ?_)
            | ((with_reducible show CallEv _ _ 40 _ _ _ _ _); refine callE (k := 40) (fun β w' hbw => h40k _ (by first | exact hbw | exact hbw.1 | exact hbw.1.1 | exact hbw.1.1.1 | exact hbw.1.1.1.1 | exact hbw.1.1.1.1.1 | exact hbw.1.1.1.1.1.1 | exact hbw.1.1.1.1.1.1.1 | exact hbw.1.1.1.1.1.1.1.1 | exact hbw.1.1.1.1.1.1.1.1.1 | exact hbw.1.1.1.1.1.1.1.1.1.1 | exact hbw.1.1.1.1.1.1.1.1.1.1.1 | exact hbw.1.1.1.1.1.1.1.1.1.1.1.1 | exact hbw.1.1.1.1.1.1.1.1.1.1.1.1.1)) ?_)
          all_goals first
            | (exfalso; omega)
            | exact ⟨k + 1, by omega, by omega, Ent.ren (rho [(1, 10), (2, 11), (3, 13), (4, 14), (7, 16), (8, 17)]) rfl (by rw [hTA, hTB, hTD, hTX]; rfl) ⟨rfl, rfl, rfl, rfl, rfl, rfl, rfl, rfl, rfl, by rw [hTA]; rfl, by rw [hTB]; rfl, by rw [hTD]; rfl, by rw [hTX]; rfl, rfl, trivial⟩ (by rw [hTA, hTB, hTD, hTX]; exact ⟨rfl, rfl, rfl, rfl, trivial⟩) fun _ h => h⟩
    | cons a TA =>
      simp only [List.length_cons] at hLA
      cases TB with
      | nil => simp only [List.length_nil] at hLB; omega
      | cons b TB =>
      simp only [List.length_cons] at hLB
      cases TX with
      | nil => simp only [List.length_nil] at hLX; omega
      | cons e TX =>
      simp only [List.length_cons] at hLX
      cases hbk : bhB N wk (C.map Rw.xs) (S.map Sy.d) k with
      | true =>
        rw [hbk] at h39k hTD
        rw [if_pos rfl] at hTD
        cases TD with
        | nil =>
          repeat'
           conv => whnf
           first
            | refine zA ?_ | refine zB ?_ | refine zC ?_ | refine zD ?_ | refine zE ?_ | refine zF ?_ | refine zG ?_ | refine zH ?_ | refine zJ ?_ | refine zI ?_ | refine splT ?_ | refine splF ?_ | refine splNot ?_
            | ((first | refine splIn (fun hc => ?_) (fun hc => ?_) | refine splD (fun hc => ?_) (fun hc => ?_) | refine splE (fun hc => ?_) (fun hc => ?_) | refine splNE (fun hc => ?_) (fun hc => ?_)) <;> first | (exfalso; omega) | (exfalso; dsimp only at hc; omega) | skip)
            | ((with_reducible show CallEv _ _ 37 _ _ _ _ _); refine callE (k := 37) (fun β w' hbw => h37k _ (by first | exact hbw | exact hbw.1 | exact hbw.1.1 | exact hbw.1.1.1 | exact hbw.1.1.1.1 | exact hbw.1.1.1.1.1 | exact hbw.1.1.1.1.1.1 | exact hbw.1.1.1.1.1.1.1 | exact hbw.1.1.1.1.1.1.1.1 | exact hbw.1.1.1.1.1.1.1.1.1 | exact hbw.1.1.1.1.1.1.1.1.1.1 | exact hbw.1.1.1.1.1.1.1.1.1.1.1 | exact hbw.1.1.1.1.1.1.1.1.1.1.1.1 | exact hbw.1.1.1.1.1.1.1.1.1.1.1.1.1)) ?_)
            | ((with_reducible show CallEv _ _ 38 _ _ _ _ _); refine callE (k := 38) (fun β w' hbw => h38k _ (by first | exact hbw | exact hbw.1 | exact hbw.1.1 | exact hbw.1.1.1 | exact hbw.1.1.1.1 | exact hbw.1.1.1.1.1 | exact hbw.1.1.1.1.1.1 | exact hbw.1.1.1.1.1.1.1 | exact hbw.1.1.1.1.1.1.1.1 | exact hbw.1.1.1.1.1.1.1.1.1 | exact hbw.1.1.1.1.1.1.1.1.1.1 | exact hbw.1.1.1.1.1.1.1.1.1.1.1 | exact hbw.1.1.1.1.1.1.1.1.1.1.1.1 | exact hbw.1.1.1.1.1.1.1.1.1.1.1.1.1)) ?_)
            | ((with_reducible show CallEv _ _ 39 _ _ _ _ _); refine callE (k := 39) (fun β w' hbw => h39k _ (by first | exact hbw | exact hbw.1 | exact hbw.1.1 | exact hbw.1.1.1 | exact hbw.1.1.1.1 | exact hbw.1.1.1.1.1 | exact hbw.1.1.1.1.1.1 | exact hbw.1.1.1.1.1.1.1 | exact hbw.1.1.1.1.1.1.1.1 | exact hbw.1.1.1.1.1.1.1.1.1 | exact hbw.1.1.1.1.1.1.1.1.1.1 | exact hbw.1.1.1.1.1.1.1.1.1.1.1 | exact hbw.1.1.1.1.1.1.1.1.1.1.1.1 | exact hbw.1.1.1.1.1.1.1.1.1.1.1.1.1)) ?_)
            | ((with_reducible show CallEv _ _ 40 _ _ _ _ _); refine callE (k := 40) (fun β w' hbw => h40k _ (by first | exact hbw | exact hbw.1 | exact hbw.1.1 | exact hbw.1.1.1 | exact hbw.1.1.1.1 | exact hbw.1.1.1.1.1 | exact hbw.1.1.1.1.1.1 | exact hbw.1.1.1.1.1.1.1 | exact hbw.1.1.1.1.1.1.1.1 | exact hbw.1.1.1.1.1.1.1.1.1 | exact hbw.1.1.1.1.1.1.1.1.1.1 | exact hbw.1.1.1.1.1.1.1.1.1.1.1 | exact hbw.1.1.1.1.1.1.1.1.1.1.1.1 | exact hbw.1.1.1.1.1.1.1.1.1.1.1.1.1)) ?_)
          all_goals first
            | (exfalso; omega)
            | exact ⟨k + 1, by omega, by omega, Ent.ren (rho [(1, 10), (2, 11), (3, 13), (4, 14), (5, 16), (6, 17), (7, 19), (8, 20)]) rfl (by rw [hTA, hTB, hTD, hTX]; rfl) ⟨rfl, rfl, rfl, rfl, rfl, rfl, rfl, rfl, rfl, by rw [hTA]; simp [oSV]; rfl, by rw [hTB]; simp [oSV]; rfl, by rw [hTD]; rfl, by rw [hTX]; simp [oSV]; rfl, rfl, trivial⟩ (by rw [hTA, hTB, hTD, hTX]; exact ⟨rfl, by simp [oM]; rfl, by simp [oM]; rfl, rfl, by simp [oM]; rfl, trivial⟩) fun _ h => h⟩
        | cons d TD =>
          simp only [List.length_cons] at hLD
          repeat'
           conv => whnf
           first
            | refine zA ?_ | refine zB ?_ | refine zC ?_ | refine zD ?_ | refine zE ?_ | refine zF ?_ | refine zG ?_ | refine zH ?_ | refine zJ ?_ | refine zI ?_ | refine splT ?_ | refine splF ?_ | refine splNot ?_
            | ((first | refine splIn (fun hc => ?_) (fun hc => ?_) | refine splD (fun hc => ?_) (fun hc => ?_) | refine splE (fun hc => ?_) (fun hc => ?_) | refine splNE (fun hc => ?_) (fun hc => ?_)) <;> first | (exfalso; omega) | (exfalso; dsimp only at hc; omega) | skip)
            | ((with_reducible show CallEv _ _ 37 _ _ _ _ _); refine callE (k := 37) (fun β w' hbw => h37k _ (by first | exact hbw | exact hbw.1 | exact hbw.1.1 | exact hbw.1.1.1 | exact hbw.1.1.1.1 | exact hbw.1.1.1.1.1 | exact hbw.1.1.1.1.1.1 | exact hbw.1.1.1.1.1.1.1 | exact hbw.1.1.1.1.1.1.1.1 | exact hbw.1.1.1.1.1.1.1.1.1 | exact hbw.1.1.1.1.1.1.1.1.1.1 | exact hbw.1.1.1.1.1.1.1.1.1.1.1 | exact hbw.1.1.1.1.1.1.1.1.1.1.1.1 | exact hbw.1.1.1.1.1.1.1.1.1.1.1.1.1)) ?_)
            | ((with_reducible show CallEv _ _ 38 _ _ _ _ _); refine callE (k := 38) (fun β w' hbw => h38k _ (by first | exact hbw | exact hbw.1 | exact hbw.1.1 | exact hbw.1.1.1 | exact hbw.1.1.1.1 | exact hbw.1.1.1.1.1 | exact hbw.1.1.1.1.1.1 | exact hbw.1.1.1.1.1.1.1 | exact hbw.1.1.1.1.1.1.1.1 | exact hbw.1.1.1.1.1.1.1.1.1 | exact hbw.1.1.1.1.1.1.1.1.1.1 | exact hbw.1.1.1.1.1.1.1.1.1.1.1 | exact hbw.1.1.1.1.1.1.1.1.1.1.1.1 | exact hbw.1.1.1.1.1.1.1.1.1.1.1.1.1)) ?_)
            | ((with_reducible show CallEv _ _ 39 _ _ _ _ _); refine callE (k := 39) (fun β w' hbw => h39k _ (by first | exact hbw | exact hbw.1 | exact hbw.1.1 | exact hbw.1.1.1 | exact hbw.1.1.1.1 | exact hbw.1.1.1.1.1 | exact hbw.1.1.1.1.1.1 | exact hbw.1.1.1.1.1.1.1 | exact hbw.1.1.1.1.1.1.1.1 | exact hbw.1.1.1.1.1.1.1.1.1 | exact hbw.1.1.1.1.1.1.1.1.1.1 | exact hbw.1.1.1.1.1.1.1.1.1.1.1 | exact hbw.1.1.1.1.1.1.1.1.1.1.1.1 | exact hbw.1.1.1.1.1.1.1.1.1.1.1.1.1)) ?_)
            | ((with_reducible show CallEv _ _ 40 _ _ _ _ _); refine callE (k := 40) (fun β w' hbw => h40k _ (by first | exact hbw | exact hbw.1 | exact hbw.1.1 | exact hbw.1.1.1 | exact hbw.1.1.1.1 | exact hbw.1.1.1.1.1 | exact hbw.1.1.1.1.1.1 | exact hbw.1.1.1.1.1.1.1 | exact hbw.1.1.1.1.1.1.1.1 | exact hbw.1.1.1.1.1.1.1.1.1 | exact hbw.1.1.1.1.1.1.1.1.1.1 | exact hbw.1.1.1.1.1.1.1.1.1.1.1 | exact hbw.1.1.1.1.1.1.1.1.1.1.1.1 | exact hbw.1.1.1.1.1.1.1.1.1.1.1.1.1)) ?_)
          all_goals first
            | (exfalso; omega)
            | exact ⟨k + 1, by omega, by omega, Ent.ren (rho [(1, 10), (2, 11), (3, 13), (4, 14), (5, 16), (6, 17), (7, 19), (8, 20)]) rfl (by rw [hTA, hTB, hTD, hTX]; rfl) ⟨rfl, rfl, rfl, rfl, rfl, rfl, rfl, rfl, rfl, by rw [hTA]; simp [oSV]; rfl, by rw [hTB]; simp [oSV]; rfl, by rw [hTD]; simp [oSV]; rfl, by rw [hTX]; simp [oSV]; rfl, rfl, trivial⟩ (by rw [hTA, hTB, hTD, hTX]; exact ⟨rfl, by simp [oM]; rfl, by simp [oM]; rfl, by simp [oM]; rfl, by simp [oM]; rfl, trivial⟩) fun _ h => h⟩
      | false =>
        rw [hbk] at h39k hTD
        rw [if_neg (by decide), List.append_nil] at hTD
        cases TD with
        | nil =>
          repeat'
           conv => whnf
           first
            | refine zA ?_ | refine zB ?_ | refine zC ?_ | refine zD ?_ | refine zE ?_ | refine zF ?_ | refine zG ?_ | refine zH ?_ | refine zJ ?_ | refine zI ?_ | refine splT ?_ | refine splF ?_ | refine splNot ?_
            | ((first | refine splIn (fun hc => ?_) (fun hc => ?_) | refine splD (fun hc => ?_) (fun hc => ?_) | refine splE (fun hc => ?_) (fun hc => ?_) | refine splNE (fun hc => ?_) (fun hc => ?_)) <;> first | (exfalso; omega) | (exfalso; dsimp only at hc; omega) | skip)
            | ((with_reducible show CallEv _ _ 37 _ _ _ _ _); refine callE (k := 37) (fun β w' hbw => h37k _ (by first | exact hbw | exact hbw.1 | exact hbw.1.1 | exact hbw.1.1.1 | exact hbw.1.1.1.1 | exact hbw.1.1.1.1.1 | exact hbw.1.1.1.1.1.1 | exact hbw.1.1.1.1.1.1.1 | exact hbw.1.1.1.1.1.1.1.1 | exact hbw.1.1.1.1.1.1.1.1.1 | exact hbw.1.1.1.1.1.1.1.1.1.1 | exact hbw.1.1.1.1.1.1.1.1.1.1.1 | exact hbw.1.1.1.1.1.1.1.1.1.1.1.1 | exact hbw.1.1.1.1.1.1.1.1.1.1.1.1.1)) ?_)
            | ((with_reducible show CallEv _ _ 38 _ _ _ _ _); refine callE (k := 38) (fun β w' hbw => h38k _ (by first | exact hbw | exact hbw.1 | exact hbw.1.1 | exact hbw.1.1.1 | exact hbw.1.1.1.1 | exact hbw.1.1.1.1.1 | exact hbw.1.1.1.1.1.1 | exact hbw.1.1.1.1.1.1.1 | exact hbw.1.1.1.1.1.1.1.1 | exact hbw.1.1.1.1.1.1.1.1.1 | exact hbw.1.1.1.1.1.1.1.1.1.1 | exact hbw.1.1.1.1.1.1.1.1.1.1.1 | exact hbw.1.1.1.1.1.1.1.1.1.1.1.1 | exact hbw.1.1.1.1.1.1.1.1.1.1.1.1.1)) ?_)
            | ((with_reducible show CallEv _ _ 39 _ _ _ _ _); refine callE (k := 39) (fun β w' hbw => h39k _ (by first | exact hbw | exact hbw.1 | exact hbw.1.1 | exact hbw.1.1.1 | exact hbw.1.1.1.1 | exact hbw.1.1.1.1.1 | exact hbw.1.1.1.1.1.1 | exact hbw.1.1.1.1.1.1.1 | exact hbw.1.1.1.1.1.1.1.1 | exact hbw.1.1.1.1.1.1.1.1.1 | exact hbw.1.1.1.1.1.1.1.1.1.1 | exact hbw.1.1.1.1.1.1.1.1.1.1.1 | exact hbw.1.1.1.1.1.1.1.1.1.1.1.1 | exact hbw.1.1.1.1.1.1.1.1.1.1.1.1.1)) ?_)
            | ((with_reducible show CallEv _ _ 40 _ _ _ _ _); refine callE (k := 40) (fun β w' hbw => h40k _ (by first | exact hbw | exact hbw.1 | exact hbw.1.1 | exact hbw.1.1.1 | exact hbw.1.1.1.1 | exact hbw.1.1.1.1.1 | exact hbw.1.1.1.1.1.1 | exact hbw.1.1.1.1.1.1.1 | exact hbw.1.1.1.1.1.1.1.1 | exact hbw.1.1.1.1.1.1.1.1.1 | exact hbw.1.1.1.1.1.1.1.1.1.1 | exact hbw.1.1.1.1.1.1.1.1.1.1.1 | exact hbw.1.1.1.1.1.1.1.1.1.1.1.1 | exact hbw.1.1.1.1.1.1.1.1.1.1.1.1.1)) ?_)
          all_goals first
            | (exfalso; omega)
            | exact ⟨k + 1, by omega, by omega, Ent.ren (rho [(1, 10), (2, 11), (3, 13), (4, 14), (7, 16), (8, 17)]) rfl (by rw [hTA, hTB, hTD, hTX]; rfl) ⟨rfl, rfl, rfl, rfl, rfl, rfl, rfl, rfl, rfl, by rw [hTA]; simp [oSV]; rfl, by rw [hTB]; simp [oSV]; rfl, by rw [hTD]; rfl, by rw [hTX]; simp [oSV]; rfl, rfl, trivial⟩ (by rw [hTA, hTB, hTD, hTX]; exact ⟨rfl, by simp [oM]; rfl, by simp [oM]; rfl, by simp [oM]; rfl, trivial⟩) fun _ h => h⟩
        | cons d TD =>
          simp only [List.length_cons] at hLD
          repeat'
           conv => whnf
           first
            | refine zA ?_ | refine zB ?_ | refine zC ?_ | refine zD ?_ | refine zE ?_ | refine zF ?_ | refine zG ?_ | refine zH ?_ | refine zJ ?_ | refine zI ?_ | refine splT ?_ | refine splF ?_ | refine splNot ?_
            | ((first | refine splIn (fun hc => ?_) (fun hc => ?_) | refine splD (fun hc => ?_) (fun hc => ?_) | refine splE (fun hc => ?_) (fun hc => ?_) | refine splNE (fun hc => ?_) (fun hc => ?_)) <;> first | (exfalso; omega) | (exfalso; dsimp only at hc; omega) | skip)
            | ((with_reducible show CallEv _ _ 37 _ _ _ _ _); refine callE (k := 37) (fun β w' hbw => h37k _ (by first | exact hbw | exact hbw.1 | exact hbw.1.1 | exact hbw.1.1.1 | exact hbw.1.1.1.1 | exact hbw.1.1.1.1.1 | exact hbw.1.1.1.1.1.1 | exact hbw.1.1.1.1.1.1.1 | exact hbw.1.1.1.1.1.1.1.1 | exact hbw.1.1.1.1.1.1.1.1.1 | exact hbw.1.1.1.1.1.1.1.1.1.1 | exact hbw.1.1.1.1.1.1.1.1.1.1.1 | exact hbw.1.1.1.1.1.1.1.1.1.1.1.1 | exact hbw.1.1.1.1.1.1.1.1.1.1.1.1.1)) ?_)
            | ((with_reducible show CallEv _ _ 38 _ _ _ _ _); refine callE (k := 38) (fun β w' hbw => h38k _ (by first | exact hbw | exact hbw.1 | exact hbw.1.1 | exact hbw.1.1.1 | exact hbw.1.1.1.1 | exact hbw.1.1.1.1.1 | exact hbw.1.1.1.1.1.1 | exact hbw.1.1.1.1.1.1.1 | exact hbw.1.1.1.1.1.1.1.1 | exact hbw.1.1.1.1.1.1.1.1.1 | exact hbw.1.1.1.1.1.1.1.1.1.1 | exact hbw.1.1.1.1.1.1.1.1.1.1.1 | exact hbw.1.1.1.1.1.1.1.1.1.1.1.1 | exact hbw.1.1.1.1.1.1.1.1.1.1.1.1.1)) ?_)
            | ((with_reducible show CallEv _ _ 39 _ _ _ _ _); refine callE (k := 39) (fun β w' hbw => h39k _ (by first | exact hbw | exact hbw.1 | exact hbw.1.1 | exact hbw.1.1.1 | exact hbw.1.1.1.1 | exact hbw.1.1.1.1.1 | exact hbw.1.1.1.1.1.1 | exact hbw.1.1.1.1.1.1.1 | exact hbw.1.1.1.1.1.1.1.1 | exact hbw.1.1.1.1.1.1.1.1.1 | exact hbw.1.1.1.1.1.1.1.1.1.1 | exact hbw.1.1.1.1.1.1.1.1.1.1.1 | exact hbw.1.1.1.1.1.1.1.1.1.1.1.1 | exact hbw.1.1.1.1.1.1.1.1.1.1.1.1.1)) ?_)
            | ((with_reducible show CallEv _ _ 40 _ _ _ _ _); refine callE (k := 40) (fun β w' hbw => h40k _ (by first | exact hbw | exact hbw.1 | exact hbw.1.1 | exact hbw.1.1.1 | exact hbw.1.1.1.1 | exact hbw.1.1.1.1.1 | exact hbw.1.1.1.1.1.1 | exact hbw.1.1.1.1.1.1.1 | exact hbw.1.1.1.1.1.1.1.1 | exact hbw.1.1.1.1.1.1.1.1.1 | exact hbw.1.1.1.1.1.1.1.1.1.1 | exact hbw.1.1.1.1.1.1.1.1.1.1.1 | exact hbw.1.1.1.1.1.1.1.1.1.1.1.1 | exact hbw.1.1.1.1.1.1.1.1.1.1.1.1.1)) ?_)
          all_goals first
            | (exfalso; omega)
            | exact ⟨k + 1, by omega, by omega, Ent.ren (rho [(1, 10), (2, 11), (3, 13), (4, 14), (7, 16), (8, 17)]) rfl (by rw [hTA, hTB, hTD, hTX]; rfl) ⟨rfl, rfl, rfl, rfl, rfl, rfl, rfl, rfl, rfl, by rw [hTA]; simp [oSV]; rfl, by rw [hTB]; simp [oSV]; rfl, by rw [hTD]; rfl, by rw [hTX]; simp [oSV]; rfl, rfl, trivial⟩ (by rw [hTA, hTB, hTD, hTX]; exact ⟨rfl, by simp [oM]; rfl, by simp [oM]; rfl, rfl, by simp [oM]; rfl, trivial⟩) fun _ h => h⟩
  · have hkn : k = N.length := by omega
    subst hkn
    have hLA : (aK (C.map Rw.xs) (S.map Sy.d) N.length).length = N.length := rmap_len _ _
    have hLB : (bK N (C.map Rw.xs) (S.map Sy.d) N.length).length = N.length := rmap_len _ _
    have hLD := bhK_len N wk (C.map Rw.xs) (S.map Sy.d) N.length
    have hLX : (xK N wk (C.map Rw.xs) (S.map Sy.d) N.length).length = N.length := rmap_len _ _
    clear h29 h33 h35
    generalize aK (C.map Rw.xs) (S.map Sy.d) N.length = TA at *
    generalize bK N (C.map Rw.xs) (S.map Sy.d) N.length = TB at *
    generalize bhK N wk (C.map Rw.xs) (S.map Sy.d) N.length = TD at *
    generalize xK N wk (C.map Rw.xs) (S.map Sy.d) N.length = TX at *
    cases TA with
    | nil => simp only [List.length_nil] at hLA; omega
    | cons a TA =>
    cases TB with
    | nil => simp only [List.length_nil] at hLB; omega
    | cons b TB =>
    cases TX with
    | nil => simp only [List.length_nil] at hLX; omega
    | cons e TX =>
    simp only [List.length_cons] at hLX
    simp only [List.length_cons] at hLA hLB
    cases TD with
    | nil =>
      repeat'
       conv => whnf
       first
        | refine zA ?_ | refine zB ?_ | refine zC ?_ | refine zD ?_ | refine zE ?_ | refine zF ?_ | refine zG ?_ | refine zH ?_ | refine zJ ?_ | refine zI ?_ | refine splT ?_ | refine splF ?_ | refine splNot ?_
        | ((first | refine splIn (fun hc => ?_) (fun hc => ?_) | refine splD (fun hc => ?_) (fun hc => ?_) | refine splE (fun hc => ?_) (fun hc => ?_) | refine splNE (fun hc => ?_) (fun hc => ?_)) <;> first | (exfalso; omega) | (exfalso; dsimp only at hc; omega) | skip)
        | ((with_reducible show CallEv _ _ 16 _ _ _ _ _); refine callE (k := 16) (fun β w' hbw => awake_calls w') ?_)
        | ((with_reducible show CallEv _ _ 32 [.v (.slice p1 _ _), _] _ _ _ _); refine callM (k := 32) [1] (fun β w' hbk hbw => ints_same (a :: TA) p1 (some ⟨β 1, 0, none⟩) _ _ q1 (β 2) w' rfl rfl (hbw.1.1.1.1.1.1.1.2.1) (own_now rfl (hbk 1 (by simp) _ rfl)) (by simp only [List.length_cons]; omega)) ?_)
        | ((with_reducible show CallEv _ _ 32 [.v (.slice p2 _ _), _] _ _ _ _); refine callM (k := 32) [3] (fun β w' hbk hbw => ints_same (b :: TB) p2 (some ⟨β 3, 0, none⟩) _ _ q2 (β 4) w' rfl rfl (hbw.1.1.1.1.1.1.1.2.2) (own_now rfl (hbk 3 (by simp) _ rfl)) (by simp only [List.length_cons]; omega)) ?_)
        | ((with_reducible show CallEv _ _ 32 [.v (.slice p3 _ _), _] _ _ _ _); refine callE (k := 32) (fun β w' hbw => ints_same [] p3 none _ _ q3 0 w' rfl rfl (hbw.1.1.1.1.2) (.inl ⟨rfl, rfl⟩) (by simp)) ?_)
        | ((with_reducible show CallEv _ _ 32 [.v (.slice p4 _ _), _] _ _ _ _); refine callM (k := 32) [7] (fun β w' hbk hbw => ints_same (e :: TX) p4 (some ⟨β 7, 0, none⟩) _ _ q4 (β 8) w' rfl rfl (hbw.1.2) (own_now rfl (hbk 7 (by simp) _ rfl)) (by simp only [List.length_cons]; omega)) ?_)
      all_goals first | (exfalso; omega) | exact ⟨fun β => rfl, fun w' h => h.1.1.1.1.1.1.1.1.1.1⟩
    | cons d TD =>
      simp only [List.length_cons] at hLD
      repeat'
       conv => whnf
       first
        | refine zA ?_ | refine zB ?_ | refine zC ?_ | refine zD ?_ | refine zE ?_ | refine zF ?_ | refine zG ?_ | refine zH ?_ | refine zJ ?_ | refine zI ?_ | refine splT ?_ | refine splF ?_ | refine splNot ?_
        | ((first | refine splIn (fun hc => ?_) (fun hc => ?_) | refine splD (fun hc => ?_) (fun hc => ?_) | refine splE (fun hc => ?_) (fun hc => ?_) | refine splNE (fun hc => ?_) (fun hc => ?_)) <;> first | (exfalso; omega) | (exfalso; dsimp only at hc; omega) | skip)
        | ((with_reducible show CallEv _ _ 16 _ _ _ _ _); refine callE (k := 16) (fun β w' hbw => awake_calls w') ?_)
        | ((with_reducible show CallEv _ _ 32 [.v (.slice p1 _ _), _] _ _ _ _); refine callM (k := 32) [1] (fun β w' hbk hbw => ints_same (a :: TA) p1 (some ⟨β 1, 0, none⟩) _ _ q1 (β 2) w' rfl rfl (hbw.1.1.1.1.1.1.1.2.1) (own_now rfl (hbk 1 (by simp) _ rfl)) (by simp only [List.length_cons]; omega)) ?_)
        | ((with_reducible show CallEv _ _ 32 [.v (.slice p2 _ _), _] _ _ _ _); refine callM (k := 32) [3] (fun β w' hbk hbw => ints_same (b :: TB) p2 (some ⟨β 3, 0, none⟩) _ _ q2 (β 4) w' rfl rfl (hbw.1.1.1.1.1.1.1.2.2) (own_now rfl (hbk 3 (by simp) _ rfl)) (by simp only [List.length_cons]; omega)) ?_)
        | ((with_reducible show CallEv _ _ 32 [.v (.slice p3 _ _), _] _ _ _ _); refine callM (k := 32) [5] (fun β w' hbk hbw => ints_same (d :: TD) p3 (some ⟨β 5, 0, none⟩) _ _ q3 (β 6) w' rfl rfl (hbw.1.1.1.1.2) (own_now rfl (hbk 5 (by simp) _ rfl)) (by simp only [List.length_cons]; omega)) ?_)
        | ((with_reducible show CallEv _ _ 32 [.v (.slice p4 _ _), _] _ _ _ _); refine callM (k := 32) [7] (fun β w' hbk hbw => ints_same (e :: TX) p4 (some ⟨β 7, 0, none⟩) _ _ q4 (β 8) w' rfl rfl (hbw.1.2) (own_now rfl (hbk 7 (by simp) _ rfl)) (by simp only [List.length_cons]; omega)) ?_)
      all_goals first | (exfalso; omega) | exact ⟨fun β => rfl, fun w' h => h.1.1.1.1.1.1.1.1.1.1⟩

set_option maxHeartbeats 4000000 in
set_option maxRecDepth 100000 in
theorem Years_good0 (x : Cr) (o : Option Addr) (c : Nat) (S : List Sy) (w : World) (hX : CrX x w) (hY : SyX o c S w) (ht : thB x.N x.CC = true) (hs : shB (S.map Sy.d) = true) (hE : ckE x.N x.wk x.CC (S.map Sy.d) = 0) (hlt : (S.length : Int) = x.wk) :
    Calls Tryz.prog 9 #[x.v, .slice o S.length c] w fun e w' => e = .returned (.bool true) ∧ Below w.heap.size w w' := by
  have h34 := fun w' hb => thin_ok x w' (hX.below hb)
  have h27 := fun w' hb => short_ok o c S w' (hY.below hb)
  have hI := hX.cin ht
  have hJ := hY.sin hs
  have hz := SzOk.of hI hJ
  have hy := YrOk.of hE
  have h30 := fun w' hb => Course_nr x w' (hI.below hb)
  have h31 := fun w' hb => Stays_ok o c S w' (hJ.below hb)
  have h26 := fun w' hb => RightCourse_ok x w' (hI.below hb)
  have h28 := fun w' hb => StaysFault_ok x o c S w' (hI.below hb) (hJ.below hb)
  have h29 := @Has_nr x.N x.wk x.CC (S.map Sy.d) hz
  have h35 := @Behind_nr x.N x.wk x.CC (S.map Sy.d) hz
  have h33 := @Next_nr x.N x.wk x.CC (S.map Sy.d) hz
  have h36 := @Check_nr x.N x.wk x.CC (S.map Sy.d) hz
  have h37 := fun k hk w' hb => HasR_ok x o c S k w' (hI.below hb) (hJ.below hb) hy hk
  have h38 := fun k hk w' hb => LeftR_ok x o c S k w' (hI.below hb) (hJ.below hb) hy hk
  have h39 := fun k hk w' hb => BehindR_ok x o c S k w' (hI.below hb) (hJ.below hb) hy hk
  have hn6 := hy.n6
  have hsl := hJ.sl
  have hN := hI.n
  rw [ht] at h34
  rw [hs] at h27
  have hsm : (S.map Sy.d).length = S.length := List.length_map ..
  have hcr : crOk x.N x.wk x.CC = true := by
    cases h : crOk x.N x.wk x.CC with
    | true => rfl
    | false => unfold ckE at hE; rw [h, if_neg (by decide)] at hE; cases hE
  have hst : stE x.N.length x.CC.length x.wk (S.map Sy.d) = 0 := by
    unfold ckE at hE; rwa [hcr, if_pos rfl] at hE
  rw [hcr] at h26 h36
  rw [if_pos rfl] at h36
  rw [hst] at h28
  unfold hasL lefL at h29
  unfold behL at h35
  unfold nxtL nxE at h33
  rw [if_pos hE, if_pos hE, hE] at h29
  rw [if_pos hE, hE] at h35
  rw [if_pos hE, hsm, if_pos hlt, if_neg (by decide)] at h33
  clear hz hI hJ ht hs hst hcr hy hE
  obtain ⟨no, nc, N, wk, co, cc, C⟩ := x
  refine calls_val env mixed Tryz.func9 has9 Tryz.ntmps9 [.agg #[.slice no N.length nc, iv wk, .slice co C.length cc], .slice o S.length c] (by simp) ?_
  dsimp only at *
  repeat'
   conv => whnf
   first
    | refine zA ?_ | refine zB ?_ | refine zC ?_ | refine zD ?_ | refine zE ?_ | refine zF ?_ | refine zG ?_ | refine zH ?_ | refine zJ ?_ | refine zI ?_ | refine splT ?_ | refine splF ?_ | refine splNot ?_
    | ((first | refine splIn (fun hc => ?_) (fun hc => ?_) | refine splD (fun hc => ?_) (fun hc => ?_) | refine splE (fun hc => ?_) (fun hc => ?_) | refine splNE (fun hc => ?_) (fun hc => ?_)) <;> first | (exfalso; omega) | (exfalso; dsimp only at hc; omega) | skip)
    | ((with_reducible show CallEv _ _ 30 _ _ _ _ _); refine callF [] (fun y : (Option Addr × Nat) × Rws (C.map Rw.xs) => .agg #[.slice y.1.1 N.length y.1.2, iv wk, .slice y.2.o y.2.C.length y.2.c]) (fun y => crH N y) (fun β w' _ hbw => h30 w' (by first | exact hbw | exact hbw.1 | exact hbw.1.1 | exact hbw.1.1.1 | exact hbw.1.1.1.1 | exact hbw.1.1.1.1.1 | exact hbw.1.1.1.1.1.1 | exact hbw.1.1.1.1.1.1.1 | exact hbw.1.1.1.1.1.1.1.1 | exact hbw.1.1.1.1.1.1.1.1.1 | exact hbw.1.1.1.1.1.1.1.1.1.1 | exact hbw.1.1.1.1.1.1.1.1.1.1.1 | exact hbw.1.1.1.1.1.1.1.1.1.1.1.1 | exact hbw.1.1.1.1.1.1.1.1.1.1.1.1.1)) ?_; intro y; obtain ⟨⟨n1, n2⟩, ⟨c1, c2, C1, hC1⟩⟩ := y; dsimp only)
    | ((with_reducible show CallEv _ _ 31 _ _ _ _ _); refine callF [] (fun y : SyF (S.map Sy.d) => .slice y.o y.S.length y.c) (fun y => y.In) (fun β w' _ hbw => h31 w' (by first | exact hbw | exact hbw.1 | exact hbw.1.1 | exact hbw.1.1.1 | exact hbw.1.1.1.1 | exact hbw.1.1.1.1.1 | exact hbw.1.1.1.1.1.1 | exact hbw.1.1.1.1.1.1.1 | exact hbw.1.1.1.1.1.1.1.1 | exact hbw.1.1.1.1.1.1.1.1.1 | exact hbw.1.1.1.1.1.1.1.1.1.1 | exact hbw.1.1.1.1.1.1.1.1.1.1.1 | exact hbw.1.1.1.1.1.1.1.1.1.1.1.1 | exact hbw.1.1.1.1.1.1.1.1.1.1.1.1.1)) ?_; intro y; obtain ⟨s1, s2, S1, hS1⟩ := y; dsimp only)
    | ((with_reducible show CallEv _ _ 29 _ _ _ _ _); refine callF [] (fun y : (Option Addr × Nat) × (Option Addr × Nat) => .tuple #[.slice y.1.1 (aK (C.map Rw.xs) (S.map Sy.d) N.length).length y.1.2, .slice y.2.1 (bK N (C.map Rw.xs) (S.map Sy.d) N.length).length y.2.2, iv 0]) (fun y w2 => Rd 1 iF (.slice y.1.1 (aK (C.map Rw.xs) (S.map Sy.d) N.length).length y.1.2) (aK (C.map Rw.xs) (S.map Sy.d) N.length) w2 ∧ Rd 1 iF (.slice y.2.1 (bK N (C.map Rw.xs) (S.map Sy.d) N.length).length y.2.2) (bK N (C.map Rw.xs) (S.map Sy.d) N.length) w2) (fun β w' _ hbw => h29 n1 n2 c1 c2 C1 hC1 s1 s2 S1 hS1 w' hbw.1.2 hbw.2) ?_; intro y; obtain ⟨⟨p1, q1⟩, ⟨p2, q2⟩⟩ := y; dsimp only)
    | ((with_reducible show CallEv _ _ 35 _ _ _ _ _); refine callF [] (fun y : Option Addr × Nat => .tuple #[.slice y.1 (bhK N wk (C.map Rw.xs) (S.map Sy.d) N.length).length y.2, iv 0]) (fun y w2 => Rd 1 iF (.slice y.1 (bhK N wk (C.map Rw.xs) (S.map Sy.d) N.length).length y.2) (bhK N wk (C.map Rw.xs) (S.map Sy.d) N.length) w2) (fun β w' _ hbw => h35 n1 n2 c1 c2 C1 hC1 s1 s2 S1 hS1 w' hbw.1.2 hbw.2) ?_; intro y; obtain ⟨p3, q3⟩ := y; dsimp only)
    | ((with_reducible show CallEv _ _ 33 _ _ _ _ _); refine callF [] (fun y : Option Addr × Nat => .tuple #[.slice y.1 (zK N.length).length y.2, iv 7]) (fun y w2 => Rd 1 iF (.slice y.1 (zK N.length).length y.2) (zK N.length) w2) (fun β w' _ hbw => h33 n1 n2 c1 c2 C1 hC1 s1 s2 S1 hS1 w' hbw.1.2 hbw.2) ?_; intro y; obtain ⟨p4, q4⟩ := y; dsimp only)
    | ((with_reducible show CallEv _ _ 36 _ _ _ _ _); refine callE (k := 36) (fun β w' hbw => h36 n1 n2 c1 c2 C1 hC1 w' hbw.2) ?_)
    | ((with_reducible show CallEv _ _ 26 _ _ _ _ _); refine callE (k := 26) (fun β w' hbw => h26 w' (by first | exact hbw | exact hbw.1 | exact hbw.1.1 | exact hbw.1.1.1 | exact hbw.1.1.1.1 | exact hbw.1.1.1.1.1 | exact hbw.1.1.1.1.1.1 | exact hbw.1.1.1.1.1.1.1 | exact hbw.1.1.1.1.1.1.1.1 | exact hbw.1.1.1.1.1.1.1.1.1 | exact hbw.1.1.1.1.1.1.1.1.1.1 | exact hbw.1.1.1.1.1.1.1.1.1.1.1 | exact hbw.1.1.1.1.1.1.1.1.1.1.1.1 | exact hbw.1.1.1.1.1.1.1.1.1.1.1.1.1)) ?_)
    | ((with_reducible show CallEv _ _ 28 _ _ _ _ _); refine callE (k := 28) (fun β w' hbw => h28 w' (by first | exact hbw | exact hbw.1 | exact hbw.1.1 | exact hbw.1.1.1 | exact hbw.1.1.1.1 | exact hbw.1.1.1.1.1 | exact hbw.1.1.1.1.1.1 | exact hbw.1.1.1.1.1.1.1 | exact hbw.1.1.1.1.1.1.1.1 | exact hbw.1.1.1.1.1.1.1.1.1 | exact hbw.1.1.1.1.1.1.1.1.1.1 | exact hbw.1.1.1.1.1.1.1.1.1.1.1 | exact hbw.1.1.1.1.1.1.1.1.1.1.1.1 | exact hbw.1.1.1.1.1.1.1.1.1.1.1.1.1)) ?_)
    | ((with_reducible show CallEv _ _ 16 _ _ _ _ _); refine callE (k := 16) (fun β w' hbw => awake_calls w') ?_)
    | ((with_reducible show CallEv _ _ 34 _ _ _ _ _); refine callE (k := 34) (fun β w' hbw => h34 w' (by first | exact hbw | exact hbw.1 | exact hbw.1.1 | exact hbw.1.1.1 | exact hbw.1.1.1.1 | exact hbw.1.1.1.1.1 | exact hbw.1.1.1.1.1.1 | exact hbw.1.1.1.1.1.1.1 | exact hbw.1.1.1.1.1.1.1.1 | exact hbw.1.1.1.1.1.1.1.1.1 | exact hbw.1.1.1.1.1.1.1.1.1.1 | exact hbw.1.1.1.1.1.1.1.1.1.1.1 | exact hbw.1.1.1.1.1.1.1.1.1.1.1.1 | exact hbw.1.1.1.1.1.1.1.1.1.1.1.1.1)) ?_)
    | ((with_reducible show CallEv _ _ 27 _ _ _ _ _); refine callE (k := 27) (fun β w' hbw => h27 w' (by first | exact hbw | exact hbw.1 | exact hbw.1.1 | exact hbw.1.1.1 | exact hbw.1.1.1.1 | exact hbw.1.1.1.1.1 | exact hbw.1.1.1.1.1.1 | exact hbw.1.1.1.1.1.1.1 | exact hbw.1.1.1.1.1.1.1.1 | exact hbw.1.1.1.1.1.1.1.1.1 | exact hbw.1.1.1.1.1.1.1.1.1.1 | exact hbw.1.1.1.1.1.1.1.1.1.1.1 | exact hbw.1.1.1.1.1.1.1.1.1.1.1.1 | exact hbw.1.1.1.1.1.1.1.1.1.1.1.1.1)) ?_)
  all_goals first | (exfalso; omega) | skip
  conv => whnf
  refine loopN 9 (fun k : Nat => [(1, .v (.slice o S.length c)), (2, .ptr 0 0), (5, .v (.slice p1 (aK (C.map Rw.xs) (S.map Sy.d) N.length).length q1)), (6, .v (.slice p2 (bK N (C.map Rw.xs) (S.map Sy.d) N.length).length q2)), (7, .v (iv 0)), (8, .v (.slice p3 (bhK N wk (C.map Rw.xs) (S.map Sy.d) N.length).length q3)), (9, .v (iv 0)), (10, .v (.slice p4 (zK N.length).length q4)), (11, .v (iv 7)),
      (14, oSV 1 2 (aK (C.map Rw.xs) (S.map Sy.d) k)), (15, oSV 3 4 (bK N (C.map Rw.xs) (S.map Sy.d) k)), (16, oSV 5 6 (bhK N wk (C.map Rw.xs) (S.map Sy.d) k)), (17, oSV 7 8 (zK k)), (18, .v (iv k))])
    (fun k => (0, .cells [.v (.slice no N.length nc), .v (iv wk), .v (.slice co C.length cc)] 56) :: (oM 1 2 1 iF 3 (aK (C.map Rw.xs) (S.map Sy.d) k) ++ (oM 3 4 1 iF 3 (bK N (C.map Rw.xs) (S.map Sy.d) k) ++ (oM 5 6 1 iF 3 (bhK N wk (C.map Rw.xs) (S.map Sy.d) k) ++ oM 7 8 1 iF 3 (zK k)))))
    (fun k => k ≤ N.length) (fun k => N.length - k) 0 (Nat.zero_le _) ⟨rfl, rfl, rfl, rfl, rfl, rfl, rfl, rfl, rfl, rfl, rfl, rfl, rfl, rfl, trivial⟩ ⟨rfl, trivial⟩ (fun k _ => by cases aK (C.map Rw.xs) (S.map Sy.d) k <;> cases bK N (C.map Rw.xs) (S.map Sy.d) k <;> cases bhK N wk (C.map Rw.xs) (S.map Sy.d) k <;> cases zK k <;> exact ⟨rfl, rfl⟩) ?_
  intro k hk
  rcases Nat.lt_or_ge k N.length with hkl | hkl
  · have hTA : aK (C.map Rw.xs) (S.map Sy.d) (k + 1) = aK (C.map Rw.xs) (S.map Sy.d) k ++ [hsV (C.map Rw.xs) (S.map Sy.d) k] := rmap_succ _ k
    have hTB : bK N (C.map Rw.xs) (S.map Sy.d) (k + 1) = bK N (C.map Rw.xs) (S.map Sy.d) k ++ [lfV N (C.map Rw.xs) (S.map Sy.d) k] := rmap_succ _ k
    have hTD := bhK_succ N wk (C.map Rw.xs) (S.map Sy.d) k
    have hLA : (aK (C.map Rw.xs) (S.map Sy.d) k).length = k := rmap_len _ k
    have hLB : (bK N (C.map Rw.xs) (S.map Sy.d) k).length = k := rmap_len _ k
    have hLD := bhK_len N wk (C.map Rw.xs) (S.map Sy.d) k
    have h39k := h39 k hkl
    have h37k := h37 k hkl
    have h38k := h38 k hkl
    generalize hgA : aK (C.map Rw.xs) (S.map Sy.d) k = TA at *
    generalize hgB : bK N (C.map Rw.xs) (S.map Sy.d) k = TB at *
    generalize hgD : bhK N wk (C.map Rw.xs) (S.map Sy.d) k = TD at *
    cases TA with
    | nil =>
      simp only [List.length_nil] at hLA
      cases TB with
      | cons b TB => simp only [List.length_cons] at hLB; omega
      | nil =>
      cases hbk : bhB N wk (C.map Rw.xs) (S.map Sy.d) k with
      | true =>
        rw [hbk] at h39k hTD
        rw [if_pos rfl] at hTD
        cases TD with
        | cons d TD => simp only [List.length_cons] at hLD; omega
        | nil =>
          repeat'
           conv => whnf
           first
            | refine zA ?_ | refine zB ?_ | refine zC ?_ | refine zD ?_ | refine zE ?_ | refine zF ?_ | refine zG ?_ | refine zH ?_ | refine zJ ?_ | refine zI ?_ | refine splT ?_ | refine splF ?_ | refine splNot ?_
            | ((first | refine splIn (fun hc => ?_) (fun hc => ?_) | refine splD (fun hc => ?_) (fun hc => ?_) | refine splE (fun hc => ?_) (fun hc => ?_) | refine splNE (fun hc => ?_) (fun hc => ?_)) <;> first | (exfalso; omega) | (exfalso; dsimp only at hc; omega) | skip)
            | ((with_reducible show CallEv _ _ 37 _ _ _ _ _); refine callE (k := 37) (fun β w' hbw => h37k _ (by first | exact hbw | exact hbw.1 | exact hbw.1.1 | exact hbw.1.1.1 | exact hbw.1.1.1.1 | exact hbw.1.1.1.1.1 | exact hbw.1.1.1.1.1.1 | exact hbw.1.1.1.1.1.1.1 | exact hbw.1.1.1.1.1.1.1.1 | exact hbw.1.1.1.1.1.1.1.1.1 | exact hbw.1.1.1.1.1.1.1.1.1.1 | exact hbw.1.1.1.1.1.1.1.1.1.1.1 | exact hbw.1.1.1.1.1.1.1.1.1.1.1.1 | exact hbw.1.1.1.1.1.1.1.1.1.1.1.1.1)) ?_)
            | ((with_reducible show CallEv _ _ 38 _ _ _ _ _); refine callE (k := 38) (fun β w' hbw => h38k _ (by first | exact hbw | exact hbw.1 | exact hbw.1.1 | exact hbw.1.1.1 | exact hbw.1.1.1.1 | exact hbw.1.1.1.1.1 | exact hbw.1.1.1.1.1.1 | exact hbw.1.1.1.1.1.1.1 | exact hbw.1.1.1.1.1.1.1.1 | exact hbw.1.1.1.1.1.1.1.1.1 | exact hbw.1.1.1.1.1.1.1.1.1.1 | exact hbw.1.1.1.1.1.1.1.1.1.1.1 | exact hbw.1.1.1.1.1.1.1.1.1.1.1.1 | exact hbw.1.1.1.1.1.1.1.1.1.1.1.1.1)) ?_)
            | ((with_reducible show CallEv _ _ 39 _ _ _ _ _); refine callE (k := 39) (fun β w' hbw => h39k _ (by first | exact hbw | exact hbw.1 | exact hbw.1.1 | exact hbw.1.1.1 | exact hbw.1.1.1.1 | exact hbw.1.1.1.1.1 | exact hbw.1.1.1.1.1.1 | exact hbw.1.1.1.1.1.1.1 | exact hbw.1.1.1.1.1.1.1.1 | exact hbw.1.1.1.1.1.1.1.1.1 | exact hbw.1.1.1.1.1.1.1.1.1.1 | exact hbw.1.1.1.1.1.1.1.1.1.1.1 | exact hbw.1.1.1.1.1.1.1.1.1.1.1.1 | exact hbw.1.1.1.1.1.1.1.1.1.1.1.1.1)) ?_)
          all_goals first
            | (exfalso; omega)
            | exact ⟨k + 1, by omega, by omega, Ent.ren (rho [(1, 10), (2, 11), (3, 13), (4, 14), (5, 16), (6, 17)]) rfl (by rw [hTA, hTB, hTD]; rfl) ⟨rfl, rfl, rfl, rfl, rfl, rfl, rfl, rfl, rfl, by rw [hTA]; rfl, by rw [hTB]; rfl, by rw [hTD]; rfl, rfl, rfl, trivial⟩ (by rw [hTA, hTB, hTD]; exact ⟨rfl, rfl, rfl, rfl, trivial⟩) fun _ h => h⟩
      | false =>
        rw [hbk] at h39k hTD
        rw [if_neg (by decide), List.append_nil] at hTD
        cases TD with
        | cons d TD => simp only [List.length_cons] at hLD; omega
        | nil =>
          repeat'
           conv => whnf
           first
            | refine zA ?_ | refine zB ?_ | refine zC ?_ | refine zD ?_ | refine zE ?_ | refine zF ?_ | refine zG ?_ | refine zH ?_ | refine zJ ?_ | refine zI ?_ | refine splT ?_ | refine splF ?_ | refine splNot ?_
            | ((first | refine splIn (fun hc => ?_) (fun hc => ?_) | refine splD (fun hc => ?_) (fun hc => ?_) | refine splE (fun hc => ?_) (fun hc => ?_) | refine splNE (fun hc => ?_) (fun hc => ?_)) <;> first | (exfalso; omega) | (exfalso; dsimp only at hc; omega) | skip)
            | ((with_reducible show CallEv _ _ 37 _ _ _ _ _); refine callE (k := 37) (fun β w' hbw => h37k _ (by first | exact hbw | exact hbw.1 | exact hbw.1.1 | exact hbw.1.1.1 | exact hbw.1.1.1.1 | exact hbw.1.1.1.1.1 | exact hbw.1.1.1.1.1.1 | exact hbw.1.1.1.1.1.1.1 | exact hbw.1.1.1.1.1.1.1.1 | exact hbw.1.1.1.1.1.1.1.1.1 | exact hbw.1.1.1.1.1.1.1.1.1.1 | exact hbw.1.1.1.1.1.1.1.1.1.1.1 | exact hbw.1.1.1.1.1.1.1.1.1.1.1.1 | exact hbw.1.1.1.1.1.1.1.1.1.1.1.1.1)) ?_)
            | ((with_reducible show CallEv _ _ 38 _ _ _ _ _); refine callE (k := 38) (fun β w' hbw => h38k _ (by first | exact hbw | exact hbw.1 | exact hbw.1.1 | exact hbw.1.1.1 | exact hbw.1.1.1.1 | exact hbw.1.1.1.1.1 | exact hbw.1.1.1.1.1.1 | exact hbw.1.1.1.1.1.1.1 | exact hbw.1.1.1.1.1.1.1.1 | exact hbw.1.1.1.1.1.1.1.1.1 | exact hbw.1.1.1.1.1.1.1.1.1.1 | exact hbw.1.1.1.1.1.1.1.1.1.1.1 | exact hbw.1.1.1.1.1.1.1.1.1.1.1.1 | exact hbw.1.1.1.1.1.1.1.1.1.1.1.1.1)) ?_)
            | ((with_reducible show CallEv _ _ 39 _ _ _ _ _); refine callE (k := 39) (fun β w' hbw => h39k _ (by first | exact hbw | exact hbw.1 | exact hbw.1.1 | exact hbw.1.1.1 | exact hbw.1.1.1.1 | exact hbw.1.1.1.1.1 | exact hbw.1.1.1.1.1.1 | exact hbw.1.1.1.1.1.1.1 | exact hbw.1.1.1.1.1.1.1.1 | exact hbw.1.1.1.1.1.1.1.1.1 | exact hbw.1.1.1.1.1.1.1.1.1.1 | exact hbw.1.1.1.1.1.1.1.1.1.1.1 | exact hbw.1.1.1.1.1.1.1.1.1.1.1.1 | exact hbw.1.1.1.1.1.1.1.1.1.1.1.1.1)) ?_)
          all_goals first
            | (exfalso; omega)
            | exact ⟨k + 1, by omega, by omega, Ent.ren (rho [(1, 10), (2, 11), (3, 13), (4, 14)]) rfl (by rw [hTA, hTB, hTD]; rfl) ⟨rfl, rfl, rfl, rfl, rfl, rfl, rfl, rfl, rfl, by rw [hTA]; rfl, by rw [hTB]; rfl, by rw [hTD]; rfl, rfl, rfl, trivial⟩ (by rw [hTA, hTB, hTD]; exact ⟨rfl, rfl, rfl, trivial⟩) fun _ h => h⟩
    | cons a TA =>
      simp only [List.length_cons] at hLA
      cases TB with
      | nil => simp only [List.length_nil] at hLB; omega
      | cons b TB =>
      simp only [List.length_cons] at hLB
      cases hbk : bhB N wk (C.map Rw.xs) (S.map Sy.d) k with
      | true =>
        rw [hbk] at h39k hTD
        rw [if_pos rfl] at hTD
        cases TD with
        | nil =>
          repeat'
           conv => whnf
           first
            | refine zA ?_ | refine zB ?_ | refine zC ?_ | refine zD ?_ | refine zE ?_ | refine zF ?_ | refine zG ?_ | refine zH ?_ | refine zJ ?_ | refine zI ?_ | refine splT ?_ | refine splF ?_ | refine splNot ?_
            | ((first | refine splIn (fun hc => ?_) (fun hc => ?_) | refine splD (fun hc => ?_) (fun hc => ?_) | refine splE (fun hc => ?_) (fun hc => ?_) | refine splNE (fun hc => ?_) (fun hc => ?_)) <;> first | (exfalso; omega) | (exfalso; dsimp only at hc; omega) | skip)
            | ((with_reducible show CallEv _ _ 37 _ _ _ _ _); refine callE (k := 37) (fun β w' hbw => h37k _ (by first | exact hbw | exact hbw.1 | exact hbw.1.1 | exact hbw.1.1.1 | exact hbw.1.1.1.1 | exact hbw.1.1.1.1.1 | exact hbw.1.1.1.1.1.1 | exact hbw.1.1.1.1.1.1.1 | exact hbw.1.1.1.1.1.1.1.1 | exact hbw.1.1.1.1.1.1.1.1.1 | exact hbw.1.1.1.1.1.1.1.1.1.1 | exact hbw.1.1.1.1.1.1.1.1.1.1.1 | exact hbw.1.1.1.1.1.1.1.1.1.1.1.1 | exact hbw.1.1.1.1.1.1.1.1.1.1.1.1.1)) ?_)
            | ((with_reducible show CallEv _ _ 38 _ _ _ _ _); refine callE (k := 38) (fun β w' hbw => h38k _ (by first | exact hbw | exact hbw.1 | exact hbw.1.1 | exact hbw.1.1.1 | exact hbw.1.1.1.1 | exact hbw.1.1.1.1.1 | exact hbw.1.1.1.1.1.1 | exact hbw.1.1.1.1.1.1.1 | exact hbw.1.1.1.1.1.1.1.1 | exact hbw.1.1.1.1.1.1.1.1.1 | exact hbw.1.1.1.1.1.1.1.1.1.1 | exact hbw.1.1.1.1.1.1.1.1.1.1.1 | exact hbw.1.1.1.1.1.1.1.1.1.1.1.1 | exact hbw.1.1.1.1.1.1.1.1.1.1.1.1.1)) ?_)
            | ((with_reducible show CallEv _ _ 39 _ _ _ _ _); refine callE (k := 39) (fun β w' hbw => h39k _ (by first | exact hbw | exact hbw.1 | exact hbw.1.1 | exact hbw.1.1.1 | exact hbw.1.1.1.1 | exact hbw.1.1.1.1.1 | exact hbw.1.1.1.1.1.1 | exact hbw.1.1.1.1.1.1.1 | exact hbw.1.1.1.1.1.1.1.1 | exact hbw.1.1.1.1.1.1.1.1.1 | exact hbw.1.1.1.1.1.1.1.1.1.1 | exact hbw.1.1.1.1.1.1.1.1.1.1.1 | exact hbw.1.1.1.1.1.1.1.1.1.1.1.1 | exact hbw.1.1.1.1.1.1.1.1.1.1.1.1.1)) ?_)
          all_goals first
            | (exfalso; omega)
            | exact ⟨k + 1, by omega, by omega, Ent.ren (rho [(1, 10), (2, 11), (3, 13), (4, 14), (5, 16), (6, 17)]) rfl (by rw [hTA, hTB, hTD]; rfl) ⟨rfl, rfl, rfl, rfl, rfl, rfl, rfl, rfl, rfl, by rw [hTA]; simp [oSV]; rfl, by rw [hTB]; simp [oSV]; rfl, by rw [hTD]; rfl, rfl, rfl, trivial⟩ (by rw [hTA, hTB, hTD]; exact ⟨rfl, by simp [oM]; rfl, by simp [oM]; rfl, rfl, trivial⟩) fun _ h => h⟩
        | cons d TD =>
          simp only [List.length_cons] at hLD
          repeat'
           conv => whnf
           first
            | refine zA ?_ | refine zB ?_ | refine zC ?_ | refine zD ?_ | refine zE ?_ | refine zF ?_ | refine zG ?_ | refine zH ?_ | refine zJ ?_ | refine zI ?_ | refine splT ?_ | refine splF ?_ | refine splNot ?_
            | ((first | refine splIn (fun hc => ?_) (fun hc => ?_) | refine splD (fun hc => ?_) (fun hc => ?_) | refine splE (fun hc => ?_) (fun hc => ?_) | refine splNE (fun hc => ?_) (fun hc => ?_)) <;> first | (exfalso; omega) | (exfalso; dsimp only at hc; omega) | skip)
            | ((with_reducible show CallEv _ _ 37 _ _ _ _ _); refine callE (k := 37) (fun β w' hbw => h37k _ (by first | exact hbw | exact hbw.1 | exact hbw.1.1 | exact hbw.1.1.1 | exact hbw.1.1.1.1 | exact hbw.1.1.1.1.1 | exact hbw.1.1.1.1.1.1 | exact hbw.1.1.1.1.1.1.1 | exact hbw.1.1.1.1.1.1.1.1 | exact hbw.1.1.1.1.1.1.1.1.1 | exact hbw.1.1.1.1.1.1.1.1.1.1 | exact hbw.1.1.1.1.1.1.1.1.1.1.1 | exact hbw.1.1.1.1.1.1.1.1.1.1.1.1 | exact hbw.1.1.1.1.1.1.1.1.1.1.1.1.1)) ?_)
            | ((with_reducible show CallEv _ _ 38 _ _ _ _ _); refine callE (k := 38) (fun β w' hbw => h38k _ (by first | exact hbw | exact hbw.1 | exact hbw.1.1 | exact hbw.1.1.1 | exact hbw.1.1.1.1 | exact hbw.1.1.1.1.1 | exact hbw.1.1.1.1.1.1 | exact hbw.1.1.1.1.1.1.1 | exact hbw.1.1.1.1.1.1.1.1 | exact hbw.1.1.1.1.1.1.1.1.1 | exact hbw.1.1.1.1.1.1.1.1.1.1 | exact hbw.1.1.1.1.1.1.1.1.1.1.1 | exact hbw.1.1.1.1.1.1.1.1.1.1.1.1 | exact hbw.1.1.1.1.1.1.1.1.1.1.1.1.1)) ?_)
            | ((with_reducible show CallEv _ _ 39 _ _ _ _ _); refine callE (k := 39) (fun β w' hbw => h39k _ (by first | exact hbw | exact hbw.1 | exact hbw.1.1 | exact hbw.1.1.1 | exact hbw.1.1.1.1 | exact hbw.1.1.1.1.1 | exact hbw.1.1.1.1.1.1 | exact hbw.1.1.1.1.1.1.1 | exact hbw.1.1.1.1.1.1.1.1 | exact hbw.1.1.1.1.1.1.1.1.1 | exact hbw.1.1.1.1.1.1.1.1.1.1 | exact hbw.1.1.1.1.1.1.1.1.1.1.1 | exact hbw.1.1.1.1.1.1.1.1.1.1.1.1 | exact hbw.1.1.1.1.1.1.1.1.1.1.1.1.1)) ?_)
          all_goals first
            | (exfalso; omega)
            | exact ⟨k + 1, by omega, by omega, Ent.ren (rho [(1, 10), (2, 11), (3, 13), (4, 14), (5, 16), (6, 17)]) rfl (by rw [hTA, hTB, hTD]; rfl) ⟨rfl, rfl, rfl, rfl, rfl, rfl, rfl, rfl, rfl, by rw [hTA]; simp [oSV]; rfl, by rw [hTB]; simp [oSV]; rfl, by rw [hTD]; simp [oSV]; rfl, rfl, rfl, trivial⟩ (by rw [hTA, hTB, hTD]; exact ⟨rfl, by simp [oM]; rfl, by simp [oM]; rfl, by simp [oM]; rfl, trivial⟩) fun _ h => h⟩
      | false =>
        rw [hbk] at h39k hTD
        rw [if_neg (by decide), List.append_nil] at hTD
        cases TD with
        | nil =>
          repeat'
           conv => whnf
           first
            | refine zA ?_ | refine zB ?_ | refine zC ?_ | refine zD ?_ | refine zE ?_ | refine zF ?_ | refine zG ?_ | refine zH ?_ | refine zJ ?_ | refine zI ?_ | refine splT ?_ | refine splF ?_ | refine splNot ?_
            | ((first | refine splIn (fun hc => ?_) (fun hc => ?_) | refine splD (fun hc => ?_) (fun hc => ?_) | refine splE (fun hc => ?_) (fun hc => ?_) | refine splNE (fun hc => ?_) (fun hc => ?_)) <;> first | (exfalso; omega) | (exfalso; dsimp only at hc; omega) | skip)
            | ((with_reducible show CallEv _ _ 37 _ _ _ _ _); refine callE (k := 37) (fun β w' hbw => h37k _ (by first | exact hbw | exact hbw.1 | exact hbw.1.1 | exact hbw.1.1.1 | exact hbw.1.1.1.1 | exact hbw.1.1.1.1.1 | exact hbw.1.1.1.1.1.1 | exact hbw.1.1.1.1.1.1.1 | exact hbw.1.1.1.1.1.1.1.1 | exact hbw.1.1.1.1.1.1.1.1.1 | exact hbw.1.1.1.1.1.1.1.1.1.1 | exact hbw.1.1.1.1.1.1.1.1.1.1.1 | exact hbw.1.1.1.1.1.1.1.1.1.1.1.1 | exact hbw.1.1.1.1.1.1.1.1.1.1.1.1.1)) ?_)
            | ((with_reducible show CallEv _ _ 38 _ _ _ _ _); refine callE (k := 38) (fun β w' hbw => h38k _ (by first | exact hbw | exact hbw.1 | exact hbw.1.1 | exact hbw.1.1.1 | exact hbw.1.1.1.1 | exact hbw.1.1.1.1.1 | exact hbw.1.1.1.1.1.1 | exact hbw.1.1.1.1.1.1.1 | exact hbw.1.1.1.1.1.1.1.1 | exact hbw.1.1.1.1.1.1.1.1.1 | exact hbw.1.1.1.1.1.1.1.1.1.1 | exact hbw.1.1.1.1.1.1.1.1.1.1.1 | exact hbw.1.1.1.1.1.1.1.1.1.1.1.1 | exact hbw.1.1.1.1.1.1.1.1.1.1.1.1.1)) ?_)
            | ((with_reducible show CallEv _ _ 39 _ _ _ _ _); refine callE (k := 39) (fun β w' hbw => h39k _ (by first | exact hbw | exact hbw.1 | exact hbw.1.1 | exact hbw.1.1.1 | exact hbw.1.1.1.1 | exact hbw.1.1.1.1.1 | exact hbw.1.1.1.1.1.1 | exact hbw.1.1.1.1.1.1.1 | exact hbw.1.1.1.1.1.1.1.1 | exact hbw.1.1.1.1.1.1.1.1.1 | exact hbw.1.1.1.1.1.1.1.1.1.1 | exact hbw.1.1.1.1.1.1.1.1.1.1.1 | exact hbw.1.1.1.1.1.1.1.1.1.1.1.1 | exact hbw.1.1.1.1.1.1.1.1.1.1.1.1.1)) ?_)
          all_goals first
            | (exfalso; omega)
            | exact ⟨k + 1, by omega, by omega, Ent.ren (rho [(1, 10), (2, 11), (3, 13), (4, 14)]) rfl (by rw [hTA, hTB, hTD]; rfl) ⟨rfl, rfl, rfl, rfl, rfl, rfl, rfl, rfl, rfl, by rw [hTA]; simp [oSV]; rfl, by rw [hTB]; simp [oSV]; rfl, by rw [hTD]; rfl, rfl, rfl, trivial⟩ (by rw [hTA, hTB, hTD]; exact ⟨rfl, by simp [oM]; rfl, by simp [oM]; rfl, trivial⟩) fun _ h => h⟩
        | cons d TD =>
          simp only [List.length_cons] at hLD
          repeat'
           conv => whnf
           first
            | refine zA ?_ | refine zB ?_ | refine zC ?_ | refine zD ?_ | refine zE ?_ | refine zF ?_ | refine zG ?_ | refine zH ?_ | refine zJ ?_ | refine zI ?_ | refine splT ?_ | refine splF ?_ | refine splNot ?_
            | ((first | refine splIn (fun hc => ?_) (fun hc => ?_) | refine splD (fun hc => ?_) (fun hc => ?_) | refine splE (fun hc => ?_) (fun hc => ?_) | refine splNE (fun hc => ?_) (fun hc => ?_)) <;> first | (exfalso; omega) | (exfalso; dsimp only at hc; omega) | skip)
            | ((with_reducible show CallEv _ _ 37 _ _ _ _ _); refine callE (k := 37) (fun β w' hbw => h37k _ (by first | exact hbw | exact hbw.1 | exact hbw.1.1 | exact hbw.1.1.1 | exact hbw.1.1.1.1 | exact hbw.1.1.1.1.1 | exact hbw.1.1.1.1.1.1 | exact hbw.1.1.1.1.1.1.1 | exact hbw.1.1.1.1.1.1.1.1 | exact hbw.1.1.1.1.1.1.1.1.1 | exact hbw.1.1.1.1.1.1.1.1.1.1 | exact hbw.1.1.1.1.1.1.1.1.1.1.1 | exact hbw.1.1.1.1.1.1.1.1.1.1.1.1 | exact hbw.1.1.1.1.1.1.1.1.1.1.1.1.1)) ?_)
            | ((with_reducible show CallEv _ _ 38 _ _ _ _ _); refine callE (k := 38) (fun β w' hbw => h38k _ (by first | exact hbw | exact hbw.1 | exact hbw.1.1 | exact hbw.1.1.1 | exact hbw.1.1.1.1 | exact hbw.1.1.1.1.1 | exact hbw.1.1.1.1.1.1 | exact hbw.1.1.1.1.1.1.1 | exact hbw.1.1.1.1.1.1.1.1 | exact hbw.1.1.1.1.1.1.1.1.1 | exact hbw.1.1.1.1.1.1.1.1.1.1 | exact hbw.1.1.1.1.1.1.1.1.1.1.1 | exact hbw.1.1.1.1.1.1.1.1.1.1.1.1 | exact hbw.1.1.1.1.1.1.1.1.1.1.1.1.1)) ?_)
            | ((with_reducible show CallEv _ _ 39 _ _ _ _ _); refine callE (k := 39) (fun β w' hbw => h39k _ (by first | exact hbw | exact hbw.1 | exact hbw.1.1 | exact hbw.1.1.1 | exact hbw.1.1.1.1 | exact hbw.1.1.1.1.1 | exact hbw.1.1.1.1.1.1 | exact hbw.1.1.1.1.1.1.1 | exact hbw.1.1.1.1.1.1.1.1 | exact hbw.1.1.1.1.1.1.1.1.1 | exact hbw.1.1.1.1.1.1.1.1.1.1 | exact hbw.1.1.1.1.1.1.1.1.1.1.1 | exact hbw.1.1.1.1.1.1.1.1.1.1.1.1 | exact hbw.1.1.1.1.1.1.1.1.1.1.1.1.1)) ?_)
          all_goals first
            | (exfalso; omega)
            | exact ⟨k + 1, by omega, by omega, Ent.ren (rho [(1, 10), (2, 11), (3, 13), (4, 14)]) rfl (by rw [hTA, hTB, hTD]; rfl) ⟨rfl, rfl, rfl, rfl, rfl, rfl, rfl, rfl, rfl, by rw [hTA]; simp [oSV]; rfl, by rw [hTB]; simp [oSV]; rfl, by rw [hTD]; rfl, rfl, rfl, trivial⟩ (by rw [hTA, hTB, hTD]; exact ⟨rfl, by simp [oM]; rfl, by simp [oM]; rfl, rfl, trivial⟩) fun _ h => h⟩
  · have hkn : k = N.length := by omega
    subst hkn
    have hLA : (aK (C.map Rw.xs) (S.map Sy.d) N.length).length = N.length := rmap_len _ _
    have hLB : (bK N (C.map Rw.xs) (S.map Sy.d) N.length).length = N.length := rmap_len _ _
    have hLD := bhK_len N wk (C.map Rw.xs) (S.map Sy.d) N.length
    clear h29 h33 h35
    generalize aK (C.map Rw.xs) (S.map Sy.d) N.length = TA at *
    generalize bK N (C.map Rw.xs) (S.map Sy.d) N.length = TB at *
    generalize bhK N wk (C.map Rw.xs) (S.map Sy.d) N.length = TD at *
    cases TA with
    | nil => simp only [List.length_nil] at hLA; omega
    | cons a TA =>
    cases TB with
    | nil => simp only [List.length_nil] at hLB; omega
    | cons b TB =>
    simp only [List.length_cons] at hLA hLB
    cases TD with
    | nil =>
      repeat'
       conv => whnf
       first
        | refine zA ?_ | refine zB ?_ | refine zC ?_ | refine zD ?_ | refine zE ?_ | refine zF ?_ | refine zG ?_ | refine zH ?_ | refine zJ ?_ | refine zI ?_ | refine splT ?_ | refine splF ?_ | refine splNot ?_
        | ((first | refine splIn (fun hc => ?_) (fun hc => ?_) | refine splD (fun hc => ?_) (fun hc => ?_) | refine splE (fun hc => ?_) (fun hc => ?_) | refine splNE (fun hc => ?_) (fun hc => ?_)) <;> first | (exfalso; omega) | (exfalso; dsimp only at hc; omega) | skip)
        | ((with_reducible show CallEv _ _ 16 _ _ _ _ _); refine callE (k := 16) (fun β w' hbw => awake_calls w') ?_)
        | ((with_reducible show CallEv _ _ 32 [.v (.slice p1 _ _), _] _ _ _ _); refine callM (k := 32) [1] (fun β w' hbk hbw => ints_same (a :: TA) p1 (some ⟨β 1, 0, none⟩) _ _ q1 (β 2) w' rfl rfl (hbw.1.1.1.1.1.1.1.2.1) (own_now rfl (hbk 1 (by simp) _ rfl)) (by simp only [List.length_cons]; omega)) ?_)
        | ((with_reducible show CallEv _ _ 32 [.v (.slice p2 _ _), _] _ _ _ _); refine callM (k := 32) [3] (fun β w' hbk hbw => ints_same (b :: TB) p2 (some ⟨β 3, 0, none⟩) _ _ q2 (β 4) w' rfl rfl (hbw.1.1.1.1.1.1.1.2.2) (own_now rfl (hbk 3 (by simp) _ rfl)) (by simp only [List.length_cons]; omega)) ?_)
        | ((with_reducible show CallEv _ _ 32 [.v (.slice p3 _ _), _] _ _ _ _); refine callE (k := 32) (fun β w' hbw => ints_same [] p3 none _ _ q3 0 w' rfl rfl (hbw.1.1.1.1.2) (.inl ⟨rfl, rfl⟩) (by simp)) ?_)
        | ((with_reducible show CallEv _ _ 32 [.v (.slice p4 _ _), _] _ _ _ _); refine callE (k := 32) (fun β w' hbw => ints_same [] p4 none _ _ q4 0 w' rfl rfl (hbw.1.2) (.inl ⟨rfl, rfl⟩) (by simp)) ?_)
      all_goals first | (exfalso; omega) | exact ⟨fun β => rfl, fun w' h => h.1.1.1.1.1.1.1.1.1.1⟩
    | cons d TD =>
      simp only [List.length_cons] at hLD
      repeat'
       conv => whnf
       first
        | refine zA ?_ | refine zB ?_ | refine zC ?_ | refine zD ?_ | refine zE ?_ | refine zF ?_ | refine zG ?_ | refine zH ?_ | refine zJ ?_ | refine zI ?_ | refine splT ?_ | refine splF ?_ | refine splNot ?_
        | ((first | refine splIn (fun hc => ?_) (fun hc => ?_) | refine splD (fun hc => ?_) (fun hc => ?_) | refine splE (fun hc => ?_) (fun hc => ?_) | refine splNE (fun hc => ?_) (fun hc => ?_)) <;> first | (exfalso; omega) | (exfalso; dsimp only at hc; omega) | skip)
        | ((with_reducible show CallEv _ _ 16 _ _ _ _ _); refine callE (k := 16) (fun β w' hbw => awake_calls w') ?_)
        | ((with_reducible show CallEv _ _ 32 [.v (.slice p1 _ _), _] _ _ _ _); refine callM (k := 32) [1] (fun β w' hbk hbw => ints_same (a :: TA) p1 (some ⟨β 1, 0, none⟩) _ _ q1 (β 2) w' rfl rfl (hbw.1.1.1.1.1.1.1.2.1) (own_now rfl (hbk 1 (by simp) _ rfl)) (by simp only [List.length_cons]; omega)) ?_)
        | ((with_reducible show CallEv _ _ 32 [.v (.slice p2 _ _), _] _ _ _ _); refine callM (k := 32) [3] (fun β w' hbk hbw => ints_same (b :: TB) p2 (some ⟨β 3, 0, none⟩) _ _ q2 (β 4) w' rfl rfl (hbw.1.1.1.1.1.1.1.2.2) (own_now rfl (hbk 3 (by simp) _ rfl)) (by simp only [List.length_cons]; omega)) ?_)
        | ((with_reducible show CallEv _ _ 32 [.v (.slice p3 _ _), _] _ _ _ _); refine callM (k := 32) [5] (fun β w' hbk hbw => ints_same (d :: TD) p3 (some ⟨β 5, 0, none⟩) _ _ q3 (β 6) w' rfl rfl (hbw.1.1.1.1.2) (own_now rfl (hbk 5 (by simp) _ rfl)) (by simp only [List.length_cons]; omega)) ?_)
        | ((with_reducible show CallEv _ _ 32 [.v (.slice p4 _ _), _] _ _ _ _); refine callE (k := 32) (fun β w' hbw => ints_same [] p4 none _ _ q4 0 w' rfl rfl (hbw.1.2) (.inl ⟨rfl, rfl⟩) (by simp)) ?_)
      all_goals first | (exfalso; omega) | exact ⟨fun β => rfl, fun w' h => h.1.1.1.1.1.1.1.1.1.1⟩

theorem SchoolYears_ok (x : Cr) (o : Option Addr) (c : Nat) (S : List Sy) (w : World) (hX : CrX x w) (hY : SyX o c S w) :
    Calls Tryz.prog 9 #[x.v, .slice o S.length c] w fun e w' => e = .returned (.bool true) ∧ Below w.heap.size w w' := by
  cases ht : thB x.N x.CC with
  | false => exact Years_wide x o c S w hX hY (.inl ht)
  | true =>
  cases hs : shB (S.map Sy.d) with
  | false => exact Years_wide x o c S w hX hY (.inr hs)
  | true =>
  by_cases hE : ckE x.N x.wk x.CC (S.map Sy.d) = 0
  · have hsl := (YrOk.of hE).sl
    rw [List.length_map] at hsl
    rcases Int.lt_or_eq_of_le hsl with h | h
    · exact Years_good1 x o c S w hX hY ht hs hE h
    · exact Years_good0 x o c S w hX hY ht hs hE h
  · exact Years_bad x o c S w hX hY ht hs hE
end Go.Proofs.YtpleibfohjbneaaGreat
