/- The law of parts of a season. -/
import Derived.Test.YthfabodamhdhaaaUE
import Derived.Test.YthfabodamhdhaaaSX
import Derived.Test.YthfabodamhdhaaaTE
import Derived.Test.YthfabodamhdhaaaTG
import Derived.Test.YthfabodamhdhaaaTP
namespace Go.Proofs.Ythfabodamhdhaaa
open Go Tx Go.RowKit
set_option linter.unusedSimpArgs false
set_option linter.unusedVariables false

/-- Where a list of faults may lie. -/
abbrev FQ (F : List (Nat × Nat)) : Type := {q : Option Addr × Nat // 1 ≤ F.length → ∃ a, q.1 = some a}
def hdO : Code → Array Oper | .seq (.region _ o _) _ => o | _ => #[]
theorem c10_3 : rest 3 body10 = .seq (.region 4 (hdO (rest 3 body10)) true) (rest 4 body10) := by kernel_rfl
theorem c10_5 : rest 1 (rest 4 body10) = .seq (.region 19 (hdO (rest 1 (rest 4 body10))) true) (rest 6 body10) := by kernel_rfl
theorem c10_6 : rest 6 body10 = .seq (.region 20 (hdO (rest 6 body10)) true) (rest 7 body10) := by kernel_rfl
/-- The first elements. -/
theorem rd_take {α : Type} {sz : Nat} {f : α → List Value} {o : Option Addr} {c n : Nat} {L : List α} {w : World} (h : Rd sz f (.slice o L.length c) L w) (hn : n ≤ L.length) (h1 : 1 ≤ L.length) : Rd sz f (.slice o n c) (L.take n) w := by
  rcases h with ⟨h2, h3⟩ | ⟨ad, d, h2, h3⟩
  · rw [h3] at h1; simp at h1
  · simp only [Value.slice.injEq] at h2
    obtain ⟨rfl, _, rfl⟩ := h2
    refine .inr ⟨ad, c, by rw [List.length_take, Nat.min_eq_left hn], fun k b hk => h3 k b ?_⟩
    have := (List.getElem?_eq_some_iff.1 hk).1
    rw [List.length_take] at this
    rwa [List.getElem?_take_of_lt (by omega)] at hk
/-- Profit, of a copy. -/
theorem pf_at {x y : Tr} {n : Nat} {S : List (Int × Int × Int)} {w' : World} {y3 : Option Addr × Nat} (hS : ∀ s ∈ S, I64 s.1 ∧ I64 s.2.1 ∧ I64 s.2.2) (hn : n ≤ S.length) (hl : n ≤ 20) (h1 : TrIn y w' ∧ y.d = x.d) (h2 : Rd 3 spF (sV n y3) (S.take n) w' ∧ n ≤ y3.2) : SpIn y3.1 y3.2 (S.take n) w' := by
  have e : (S.take n).length = n := by rw [List.length_take, Nat.min_eq_left hn]
  exact ⟨by rw [e]; exact h2.1, by omega, by omega, fun s hs => ⟨(hS s (List.mem_of_mem_take hs)).2.1, (hS s (List.mem_of_mem_take hs)).2.2⟩⟩
theorem se_at {o : Option Addr} {c n : Nat} {S : List (Int × Int × Int)} {w w' : World} (hS : SpI0 o c S w) (hn : n ≤ S.length) (hl : n ≤ 1000) (h1 : 1 ≤ S.length) (hb : Below w.heap.size w w') :
    Calls Try.prog 41 #[.slice o n c] w' fun e w2 => ∃ y3 : Option Addr × Nat, e = .returned (sV n y3) ∧ Below w'.heap.size w' w2 ∧ St w'.heap.size (fun w3 => Rd 3 spF (sV n y3) (S.take n) w3 ∧ n ≤ y3.2) w2 := by
  have e : (S.take n).length = n := by rw [List.length_take, Nat.min_eq_left hn]
  have := Season_ok (S.take n) o c w' (by rw [e]; exact (rd_take hS.r hn h1).below hb) (by omega)
  rwa [e] at this
set_option maxHeartbeats 4000000 in
set_option maxRecDepth 100000 in
theorem Pa4 (x y : Tr) (o : Option Addr) (c : Nat) (S : List (Int × Int × Int)) (w : World) (hB : toB x.d = true) (hS : SpI0 o c S w) (hl : 1 ≤ S.length ∧ S.length ≤ 20) (h4 : VC Try.prog (rest 4 body10) ⟨165, [(1, .v (.slice o S.length c)), (2, .ptr 0 0), (5, .ptr 1 0), (6, .v (iv (pfV x.d (S.take 1)).1)), (7, .v (iv (pfV x.d (S.take 1)).2))], [(0, .cells x.l 25), (1, .cells y.l 35)], 2, fun w2 => Below w.heap.size w w2 ∧ (TrIn y w2 ∧ y.d = x.d), z0⟩ (endΦ env Try.f10 fun s σ => (∀ β, s.c β = .bool true) ∧ ∀ w', σ.h w' → Below w.heap.size w w')) :
    VC Try.prog (rest 3 body10) ⟨165, [(1, .v (.slice o S.length c)), (2, .ptr 0 0), (5, .ptr 1 0)], [(0, .cells x.l 25), (1, .cells y.l 35)], 2, fun w2 => Below w.heap.size w w2 ∧ (TrIn y w2 ∧ y.d = x.d), z0⟩ (endΦ env Try.f10 fun s σ => (∀ β, s.c β = .bool true) ∧ ∀ w', σ.h w' → Below w.heap.size w w') := by
  have h41 := fun w' (hb : Below w.heap.size w w') => se_at (n := 1) hS hl.1 (by omega) hl.1 hb
  have h42 : ∀ (y3 : Option Addr × Nat) w', (TrIn y w' ∧ y.d = x.d) → (Rd 3 spF (sV 1 y3) (S.take 1) w' ∧ 1 ≤ y3.2) → Calls Try.prog 42 #[y.v, sV 1 y3] w' fun e w2 => ∃ _ : Unit, e = .returned (.tuple #[iv (pfV x.d (S.take 1)).1, iv (pfV x.d (S.take 1)).2]) ∧ Below w'.heap.size w' w2 ∧ St w'.heap.size (fun _ => True) w2 := fun y3 w' h1 h2 => by
    have := Profit_ok y y3.1 y3.2 (S.take 1) w' h1.1 (pf_at hS.n hl.1 (by omega) h1 h2)
    rw [h1.2, List.length_take, Nat.min_eq_left hl.1] at this
    exact this.mono fun e w2 h => ⟨(), h.1, h.2, fun _ _ => trivial⟩
  have hc := hS.c
  obtain ⟨_, ad, rfl, _⟩ := hS.r.ptr hl.1
  rw [c10_3]
  refine VC.seq (f := fun σ' => Ent σ' ⟨165, [(1, .v (.slice (some ad) S.length c)), (2, .ptr 0 0), (5, .ptr 1 0), (6, .v (iv (pfV x.d (S.take 1)).1)), (7, .v (iv (pfV x.d (S.take 1)).2))], [(0, .cells x.l 25), (1, .cells y.l 35)], 2, fun w2 => Below w.heap.size w w2 ∧ (TrIn y w2 ∧ y.d = x.d), z0⟩) ?_ (fun σ' hz => VC.ent h4 hz (okB rfl rfl rfl))
  clear h4
  generalize (pfV x.d (S.take 1)).1 = p1 at *
  generalize (pfV x.d (S.take 1)).2 = p2 at *
  generalize S.take 1 = S1 at *
  generalize S.length = n at *
  clear hS hB
  generalize hxd : x.d = xd at *
  obtain ⟨days, shift, size, to, tc, T, lo, lc, L⟩ := x
  obtain ⟨yd, ys, yz, yto, ytc, yT, ylo, ylc, yL⟩ := y
  apply VC_reg2 env mixed 3 4 (fun y3 : Option Addr × Nat => sV 1 y3) (fun y3 w3 => Rd 3 spF (sV 1 y3) S1 w3 ∧ 1 ≤ y3.2) (fun _ : Unit => .tuple #[iv p1, iv p2]) (fun _ _ => True) (none, 0) ()
  case h12 => decide
  case h3 => exact Nat.le_of_ble_eq_true (by kernel_rfl)
  case hd12 => kernel_rfl
  case hv =>
    intro y3 _
    repeat'
     conv => whnf
     first
      | refine zA ?_ | refine zB ?_ | refine zC ?_ | refine zD ?_ | refine zE ?_ | refine zF ?_ | refine zG ?_ | refine zH ?_ | refine zJ ?_ | refine zI ?_ | refine splT ?_ | refine splF ?_ | refine splNot ?_
      | ((first | refine splIn (fun hc => ?_) (fun hc => ?_) | refine splD (fun hc => ?_) (fun hc => ?_) | refine splE (fun hc => ?_) (fun hc => ?_) | refine splNE (fun hc => ?_) (fun hc => ?_)) <;> first | (exfalso; omega) | (exfalso; dsimp only at hc; omega) | skip)
      | refine slHi env (z := 1) rfl rfl rfl rfl (by omega) rfl ?_
      | refine And.intro (a := (_ : Bool) = true ∧ (_ : List _) = [] ∧ (_ : List _) = []) ⟨rfl, rfl, rfl⟩ ?_
      | (with_reducible show FamEv _ _ _ 41 _ _ _); refine FamEv.mk [] (fun β w' _ hbw => h41 w' (by repeat (first | exact hbw | replace hbw := hbw.1))) ?_
      | (with_reducible show FamEv _ _ _ 42 _ _ _); refine FamEv.mk [] (fun β w' _ hbw => h42 y3 w' hbw.1.2 hbw.2) ?_
    refine ⟨?_, Ent.weak rfl ⟨rfl, rfl, rfl, rfl, rfl, trivial⟩ ⟨rfl, rfl, trivial⟩ fun w2 h => h.1.1⟩
    simp only [List.nil_append, List.cons_append, List.append_assoc]
    exact rfl
  case hk1 => intros; rfl
  case hk2 => intros; rfl
  case hi1 => exact fun _ _ _ => ⟨Or.inr rfl, Or.inr rfl, Or.inr rfl, Or.inl (by kernel_rfl), Or.inl (by kernel_rfl), Or.inl (by kernel_rfl), Or.inl (by kernel_rfl), Or.inl (by kernel_rfl), Or.inl (by kernel_rfl), Or.inl (by kernel_rfl), trivial⟩
  case hi2 => exact fun _ _ _ => ⟨Or.inr rfl, Or.inr rfl, Or.inr rfl, Or.inr rfl, Or.inl (by kernel_rfl), Or.inl (by kernel_rfl), Or.inl (by kernel_rfl), Or.inl (by kernel_rfl), Or.inl (by kernel_rfl), Or.inl (by kernel_rfl), trivial⟩
set_option maxHeartbeats 4000000 in
set_option maxRecDepth 100000 in
theorem Pa5 (x y : Tr) (o : Option Addr) (c : Nat) (S : List (Int × Int × Int)) (w : World) (hB : toB x.d = true) (hS : SpI0 o c S w) (hl : 1 ≤ S.length ∧ S.length ≤ 20) (h4 : ∀ q : FQ (fsO x.d (S.take S.length)), VC Try.prog (rest 6 body10) ⟨165, [(1, .v (.slice o S.length c)), (2, .ptr 0 0), (5, .ptr 1 0), (13, .v (sV (fsO x.d (S.take S.length)).length q.1)), (14, .v (iv 0))], [(0, .cells x.l 25), (1, .cells y.l 35)], 2, fun w2 => (Below w.heap.size w w2 ∧ (TrIn y w2 ∧ y.d = x.d)) ∧ Rd 2 flF (sV (fsO x.d (S.take S.length)).length q.1) (fsO x.d (S.take S.length)) w2, z0⟩ (endΦ env Try.f10 fun s σ => (∀ β, s.c β = .bool true) ∧ ∀ w', σ.h w' → Below w.heap.size w w')) :
    VC Try.prog (rest 1 (rest 4 body10)) ⟨165, [(1, .v (.slice o S.length c)), (2, .ptr 0 0), (5, .ptr 1 0)], [(0, .cells x.l 25), (1, .cells y.l 35)], 2, fun w2 => Below w.heap.size w w2 ∧ (TrIn y w2 ∧ y.d = x.d), z0⟩ (endΦ env Try.f10 fun s σ => (∀ β, s.c β = .bool true) ∧ ∀ w', σ.h w' → Below w.heap.size w w') := by
  have h41 := fun w' (hb : Below w.heap.size w w') => se_at (n := S.length) hS (by omega) (by omega) hl.1 hb
  have h40 : ∀ (y3 : Option Addr × Nat) w', (TrIn y w' ∧ y.d = x.d) → (Rd 3 spF (sV S.length y3) (S.take S.length) w' ∧ S.length ≤ y3.2) → Calls Try.prog 40 #[y.v, sV S.length y3] w' fun e w2 => ∃ q : FQ (fsO x.d (S.take S.length)), e = .returned (.tuple #[sV (fsO x.d (S.take S.length)).length q.1, iv 0]) ∧ Below w'.heap.size w' w2 ∧ St w'.heap.size (Rd 2 flF (sV (fsO x.d (S.take S.length)).length q.1) (fsO x.d (S.take S.length))) w2 := fun y3 w' h1 h2 => by
    have hv : flV y.d (S.take S.length) = ((fsO x.d (S.take S.length)), 0) := by unfold flV; rw [h1.2, if_pos hB, if_pos (by rw [List.length_take]; omega)]
    have := Faults_ok y y3.1 y3.2 (S.take S.length) w' h1.1 (pf_at hS.n (by omega) (by omega) h1 h2)
    rw [hv, List.length_take, Nat.min_eq_left (by omega)] at this
    exact this.mono fun e w2 ⟨q, e1, e2, e3⟩ => ⟨⟨q, fun h => by obtain ⟨_, a, e4, _⟩ := ((St.now e3).ptr h); exact ⟨a, e4⟩⟩, e1, e2, e3⟩
  have hc := hS.c
  have h41a := fun (w' : World) (hb : Below w.heap.size w w') => h41 w' hb
  obtain ⟨_, ad, rfl, _⟩ := hS.r.ptr hl.1
  rw [c10_5]
  refine VC.seq (f := fun σ' => ∃ q : FQ (fsO x.d (S.take S.length)), Ent σ' ⟨165, [(1, .v (.slice (some ad) S.length c)), (2, .ptr 0 0), (5, .ptr 1 0), (13, .v (sV (fsO x.d (S.take S.length)).length q.1)), (14, .v (iv 0))], [(0, .cells x.l 25), (1, .cells y.l 35)], 2, fun w2 => (Below w.heap.size w w2 ∧ (TrIn y w2 ∧ y.d = x.d)) ∧ Rd 2 flF (sV (fsO x.d (S.take S.length)).length q.1) (fsO x.d (S.take S.length)) w2, z0⟩) ?_ (fun σ' ⟨q, hz⟩ => VC.ent (h4 q) hz (okB rfl rfl rfl))
  clear h4 h41a
  generalize fsO x.d (S.take S.length) = FS at *
  skip
  generalize S.take S.length = S1 at *
  generalize S.length = n at *
  clear hS hB
  generalize hxd : x.d = xd at *
  obtain ⟨days, shift, size, to, tc, T, lo, lc, L⟩ := x
  obtain ⟨yd, ys, yz, yto, ytc, yT, ylo, ylc, yL⟩ := y
  apply VC_reg2 env mixed 2 3 (fun y3 : Option Addr × Nat => sV n y3) (fun y3 w3 => Rd 3 spF (sV n y3) S1 w3 ∧ n ≤ y3.2) (fun q : FQ FS => .tuple #[sV FS.length q.1, iv 0]) (fun q w3 => Rd 2 flF (sV FS.length q.1) FS w3) (none, 0) ⟨(some ⟨0, 0, none⟩, 0), fun _ => ⟨_, rfl⟩⟩
  case h12 => decide
  case h3 => exact Nat.le_of_ble_eq_true (by kernel_rfl)
  case hd12 => kernel_rfl
  case hv =>
    intro y3 q
    repeat'
     conv => whnf
     first
      | refine zA ?_ | refine zB ?_ | refine zC ?_ | refine zD ?_ | refine zE ?_ | refine zF ?_ | refine zG ?_ | refine zH ?_ | refine zJ ?_ | refine zI ?_ | refine splT ?_ | refine splF ?_ | refine splNot ?_
      | ((first | refine splIn (fun hc => ?_) (fun hc => ?_) | refine splD (fun hc => ?_) (fun hc => ?_) | refine splE (fun hc => ?_) (fun hc => ?_) | refine splNE (fun hc => ?_) (fun hc => ?_)) <;> first | (exfalso; omega) | (exfalso; dsimp only at hc; omega) | skip)
      | refine slHi env rfl rfl rfl rfl (by omega) rfl ?_
      | refine And.intro (a := (_ : Bool) = true ∧ (_ : List _) = [] ∧ (_ : List _) = []) ⟨rfl, rfl, rfl⟩ ?_
      | (with_reducible show FamEv _ _ _ 41 _ _ _); refine FamEv.mk [] (fun β w' _ hbw => h41 w' (by repeat (first | exact hbw | replace hbw := hbw.1))) ?_
      | (with_reducible show FamEv _ _ _ 40 _ _ _); refine FamEv.mk [] (fun β w' _ hbw => h40 y3 w' (by first | exact hbw.1.2 | exact hbw.1.1.2) hbw.2) ?_
    refine ⟨?_, q, Ent.weak rfl ⟨rfl, rfl, rfl, rfl, rfl, trivial⟩ ⟨rfl, rfl, trivial⟩ fun w2 h => ⟨h.1.1, h.2⟩⟩
    simp only [List.nil_append, List.cons_append, List.append_assoc]
    exact rfl
  case hk1 => intros; rfl
  case hk2 => intros; rfl
  case hi1 => exact fun _ _ _ => ⟨Or.inr rfl, Or.inr rfl, Or.inl (by kernel_rfl), Or.inl (by kernel_rfl), Or.inl (by kernel_rfl), Or.inl (by kernel_rfl), Or.inl (by kernel_rfl), Or.inl (by kernel_rfl), Or.inl (by kernel_rfl), trivial⟩
  case hi2 => exact fun _ _ _ => ⟨Or.inr rfl, Or.inr rfl, Or.inr rfl, Or.inl (by kernel_rfl), Or.inl (by kernel_rfl), Or.inl (by kernel_rfl), Or.inl (by kernel_rfl), Or.inl (by kernel_rfl), Or.inl (by kernel_rfl), trivial⟩
set_option maxHeartbeats 4000000 in
set_option maxRecDepth 100000 in
theorem Pa6 (x y : Tr) (o : Option Addr) (c : Nat) (S : List (Int × Int × Int)) (w : World) (q1 : FQ (fsO x.d (S.take S.length))) (hB : toB x.d = true) (hS : SpI0 o c S w) (hl : 1 ≤ S.length ∧ S.length ≤ 20) (h4 : ∀ q : FQ (fsO x.d (S.take (S.length - 1))), VC Try.prog (rest 7 body10) ⟨165, [(1, .v (.slice o S.length c)), (2, .ptr 0 0), (5, .ptr 1 0), (13, .v (sV (fsO x.d (S.take S.length)).length q1.1)), (14, .v (iv 0)), (15, .v (sV (fsO x.d (S.take (S.length - 1))).length q.1)), (16, .v (iv 0))], [(0, .cells x.l 25), (1, .cells y.l 35)], 2, fun w2 => ((Below w.heap.size w w2 ∧ (TrIn y w2 ∧ y.d = x.d)) ∧ Rd 2 flF (sV (fsO x.d (S.take S.length)).length q1.1) (fsO x.d (S.take S.length)) w2) ∧ Rd 2 flF (sV (fsO x.d (S.take (S.length - 1))).length q.1) (fsO x.d (S.take (S.length - 1))) w2, z0⟩ (endΦ env Try.f10 fun s σ => (∀ β, s.c β = .bool true) ∧ ∀ w', σ.h w' → Below w.heap.size w w')) :
    VC Try.prog (rest 6 body10) ⟨165, [(1, .v (.slice o S.length c)), (2, .ptr 0 0), (5, .ptr 1 0), (13, .v (sV (fsO x.d (S.take S.length)).length q1.1)), (14, .v (iv 0))], [(0, .cells x.l 25), (1, .cells y.l 35)], 2, fun w2 => (Below w.heap.size w w2 ∧ (TrIn y w2 ∧ y.d = x.d)) ∧ Rd 2 flF (sV (fsO x.d (S.take S.length)).length q1.1) (fsO x.d (S.take S.length)) w2, z0⟩ (endΦ env Try.f10 fun s σ => (∀ β, s.c β = .bool true) ∧ ∀ w', σ.h w' → Below w.heap.size w w') := by
  have h41 := fun w' (hb : Below w.heap.size w w') => se_at (n := (S.length - 1)) hS (by omega) (by omega) hl.1 hb
  have h40 : ∀ (y3 : Option Addr × Nat) w', (TrIn y w' ∧ y.d = x.d) → (Rd 3 spF (sV (S.length - 1) y3) (S.take (S.length - 1)) w' ∧ (S.length - 1) ≤ y3.2) → Calls Try.prog 40 #[y.v, sV (S.length - 1) y3] w' fun e w2 => ∃ q : FQ (fsO x.d (S.take (S.length - 1))), e = .returned (.tuple #[sV (fsO x.d (S.take (S.length - 1))).length q.1, iv 0]) ∧ Below w'.heap.size w' w2 ∧ St w'.heap.size (Rd 2 flF (sV (fsO x.d (S.take (S.length - 1))).length q.1) (fsO x.d (S.take (S.length - 1)))) w2 := fun y3 w' h1 h2 => by
    have hv : flV y.d (S.take (S.length - 1)) = ((fsO x.d (S.take (S.length - 1))), 0) := by unfold flV; rw [h1.2, if_pos hB, if_pos (by rw [List.length_take]; omega)]
    have := Faults_ok y y3.1 y3.2 (S.take (S.length - 1)) w' h1.1 (pf_at hS.n (by omega) (by omega) h1 h2)
    rw [hv, List.length_take, Nat.min_eq_left (by omega)] at this
    exact this.mono fun e w2 ⟨q, e1, e2, e3⟩ => ⟨⟨q, fun h => by obtain ⟨_, a, e4, _⟩ := ((St.now e3).ptr h); exact ⟨a, e4⟩⟩, e1, e2, e3⟩
  have hc := hS.c
  have h41a := h41
  obtain ⟨_, ad, rfl, _⟩ := hS.r.ptr hl.1
  rw [c10_6]
  refine VC.seq (f := fun σ' => ∃ q : FQ (fsO x.d (S.take (S.length - 1))), Ent σ' ⟨165, [(1, .v (.slice (some ad) S.length c)), (2, .ptr 0 0), (5, .ptr 1 0), (13, .v (sV (fsO x.d (S.take S.length)).length q1.1)), (14, .v (iv 0)), (15, .v (sV (fsO x.d (S.take (S.length - 1))).length q.1)), (16, .v (iv 0))], [(0, .cells x.l 25), (1, .cells y.l 35)], 2, fun w2 => ((Below w.heap.size w w2 ∧ (TrIn y w2 ∧ y.d = x.d)) ∧ Rd 2 flF (sV (fsO x.d (S.take S.length)).length q1.1) (fsO x.d (S.take S.length)) w2) ∧ Rd 2 flF (sV (fsO x.d (S.take (S.length - 1))).length q.1) (fsO x.d (S.take (S.length - 1))) w2, z0⟩) ?_ (fun σ' ⟨q, hz⟩ => VC.ent (h4 q) hz (okB rfl rfl rfl))
  clear h4 h41a
  generalize fsO x.d (S.take (S.length - 1)) = FS at *
  generalize fsO x.d (S.take S.length) = F0 at *
  generalize S.take (S.length - 1) = S1 at *
  generalize S.length = n at *
  clear hS hB
  generalize hxd : x.d = xd at *
  obtain ⟨days, shift, size, to, tc, T, lo, lc, L⟩ := x
  obtain ⟨yd, ys, yz, yto, ytc, yT, ylo, ylc, yL⟩ := y
  apply VC_reg2 env mixed 6 7 (fun y3 : Option Addr × Nat => sV (n - 1) y3) (fun y3 w3 => Rd 3 spF (sV (n - 1) y3) S1 w3 ∧ (n - 1) ≤ y3.2) (fun q : FQ FS => .tuple #[sV FS.length q.1, iv 0]) (fun q w3 => Rd 2 flF (sV FS.length q.1) FS w3) (none, 0) ⟨(some ⟨0, 0, none⟩, 0), fun _ => ⟨_, rfl⟩⟩
  case h12 => decide
  case h3 => exact Nat.le_of_ble_eq_true (by kernel_rfl)
  case hd12 => kernel_rfl
  case hv =>
    intro y3 q
    repeat'
     conv => whnf
     first
      | refine zA ?_ | refine zB ?_ | refine zC ?_ | refine zD ?_ | refine zE ?_ | refine zF ?_ | refine zG ?_ | refine zH ?_ | refine zJ ?_ | refine zI ?_ | refine splT ?_ | refine splF ?_ | refine splNot ?_
      | ((first | refine splIn (fun hc => ?_) (fun hc => ?_) | refine splD (fun hc => ?_) (fun hc => ?_) | refine splE (fun hc => ?_) (fun hc => ?_) | refine splNE (fun hc => ?_) (fun hc => ?_)) <;> first | (exfalso; omega) | (exfalso; dsimp only at hc; omega) | skip)
      | refine slHi env (z := n - 1) rfl (by show some (SV.v (Value.int IntKind.i64 ((n : Int) - 1))) = _; rw [show (n : Int) - 1 = ((n - 1 : Nat) : Int) from by omega]) rfl rfl (by omega) rfl ?_
      | refine And.intro (a := (_ : Bool) = true ∧ (_ : List _) = [] ∧ (_ : List _) = []) ⟨rfl, rfl, rfl⟩ ?_
      | (with_reducible show FamEv _ _ _ 41 _ _ _); refine FamEv.mk [] (fun β w' _ hbw => h41 w' (by repeat (first | exact hbw | replace hbw := hbw.1))) ?_
      | (with_reducible show FamEv _ _ _ 40 _ _ _); refine FamEv.mk [] (fun β w' _ hbw => h40 y3 w' (by first | exact hbw.1.2 | exact hbw.1.1.2) hbw.2) ?_
    refine ⟨?_, q, Ent.weak rfl ⟨rfl, rfl, rfl, rfl, rfl, rfl, rfl, trivial⟩ ⟨rfl, rfl, trivial⟩ fun w2 h => ⟨h.1.1, h.2⟩⟩
    simp only [List.nil_append, List.cons_append, List.append_assoc]
    exact rfl
  case hk1 => intros; rfl
  case hk2 => intros; rfl
  case hi1 => exact fun _ _ _ => ⟨Or.inr rfl, Or.inr rfl, Or.inr rfl, Or.inr rfl, Or.inr rfl, Or.inr rfl, Or.inl (by kernel_rfl), Or.inl (by kernel_rfl), Or.inl (by kernel_rfl), Or.inl (by kernel_rfl), Or.inl (by kernel_rfl), Or.inl (by kernel_rfl), Or.inl (by kernel_rfl), trivial⟩
  case hi2 => exact fun _ _ _ => ⟨Or.inr rfl, Or.inr rfl, Or.inr rfl, Or.inr rfl, Or.inr rfl, Or.inr rfl, Or.inr rfl, Or.inl (by kernel_rfl), Or.inl (by kernel_rfl), Or.inl (by kernel_rfl), Or.inl (by kernel_rfl), Or.inl (by kernel_rfl), Or.inl (by kernel_rfl), trivial⟩
set_option maxHeartbeats 4000000 in
set_option maxRecDepth 100000 in
theorem Pa7 (x y : Tr) (F1 F2 : List (Nat × Nat)) (q1 : FQ F1) (q2 : FQ F2) (w : World) (hF : ∀ p ∈ F2, p.2 = 7 ∨ p ∈ F1) (hl : F1.length ≤ 100 ∧ F2.length ≤ 100) (o : Option Addr) (n c : Nat) :
    VC Try.prog (rest 7 body10) ⟨165, [(1, .v (.slice o n c)), (2, .ptr 0 0), (5, .ptr 1 0), (13, .v (sV F1.length q1.1)), (14, .v (iv 0)), (15, .v (sV F2.length q2.1)), (16, .v (iv 0))], [(0, .cells x.l 25), (1, .cells y.l 35)], 2, fun w2 => ((Below w.heap.size w w2 ∧ (TrIn y w2 ∧ y.d = x.d)) ∧ Rd 2 flF (sV F1.length q1.1) F1 w2) ∧ Rd 2 flF (sV F2.length q2.1) F2 w2, z0⟩ (endΦ env Try.f10 fun s σ => (∀ β, s.c β = .bool true) ∧ ∀ w', σ.h w' → Below w.heap.size w w') := by
  obtain ⟨⟨a1, c1⟩, hq1⟩ := q1
  obtain ⟨⟨a2, c2⟩, hq2⟩ := q2
  dsimp only at hq1 hq2 ⊢
  refine VC.of env mixed ?_
  repeat'
   conv => whnf
   first
    | refine zA ?_ | refine zB ?_ | refine zC ?_ | refine zD ?_ | refine zE ?_ | refine zF ?_ | refine zG ?_ | refine zH ?_ | refine zJ ?_ | refine zI ?_ | refine splT ?_ | refine splF ?_ | refine splNot ?_
    | ((first | refine splIn (fun hc => ?_) (fun hc => ?_) | refine splD (fun hc => ?_) (fun hc => ?_) | refine splE (fun hc => ?_) (fun hc => ?_) | refine splNE (fun hc => ?_) (fun hc => ?_)) <;> first | (exfalso; omega) | (exfalso; dsimp only at hc; omega) | skip)
  all_goals first | (exfalso; omega) | skip
  refine loopE (fun j : Nat => [(13, .v (.slice a1 F1.length c1)), (15, .v (.slice a2 F2.length c2)), (17, .v (iv j))]) (fun _ => []) (fun j => j ≤ F2.length) (fun j => F2.length - j) 0 (Nat.zero_le _) ⟨rfl, rfl, rfl, trivial⟩ trivial (fun _ => ⟨rfl, rfl⟩) ?_
  intro j hj
  rcases Nat.lt_or_ge j F2.length with hjl | hjl
  · obtain ⟨ad2, rfl⟩ := hq2 (by omega)
    obtain ⟨⟨b1, b2⟩, hx2⟩ : ∃ p, F2[j]? = some p := ⟨_, List.getElem?_eq_getElem hjl⟩
    have hb := hF _ (List.mem_of_getElem? hx2)
    dsimp only at hb
    have e2 := fun (w' : World) (hw' : Rd 2 flF (.slice (some ad2) F2.length c2) F2 w') => rd_ati hw' hx2
    have e3 := fun (w' : World) (hw' : Rd 2 flF (.slice (some ad2) F2.length c2) F2 w') => rd_fldz hw' hx2 (j : Int) rfl 1 (.int .u8 b2) rfl
    have hin : ∀ b, (b = decide (b2 = 7)) → b = decide ((b2 : Int) = 7) := fun b hb => by rw [hb]; congr 1; rw [eq_iff_iff]; omega
    repeat'
     conv => whnf
     first
      | refine zA ?_ | refine zB ?_ | refine zC ?_ | refine zD ?_ | refine zE ?_ | refine zF ?_ | refine zG ?_ | refine zH ?_ | refine zJ ?_ | refine zI ?_ | refine splT ?_ | refine splF ?_ | refine splNot ?_
      | ((first | refine splIn (fun hc => ?_) (fun hc => ?_) | refine splD (fun hc => ?_) (fun hc => ?_) | refine splE (fun hc => ?_) (fun hc => ?_) | refine splNE (fun hc => ?_) (fun hc => ?_)) <;> first | (exfalso; omega) | (exfalso; dsimp only at hc; omega) | skip)
      | refine Exists.intro (α := List Value) [.int .u8 b2] ⟨⟨rfl, fun w' hw' => e3 w' hw'.2⟩, ?_⟩
    all_goals first | (exfalso; omega) | skip
    refine loopE (fun i : Nat => [(13, .v (.slice a1 F1.length c1)), (15, .v (.slice (some ad2) F2.length c2)), (17, .v (iv j)), (18, .v (.bool (((F1.take i).any fun p => decide (p = (b1, b2))) || ((b2 : Int) == 7)))), (19, .v (iv i))]) (fun _ => []) (fun i => i ≤ F1.length) (fun i => F1.length - i) 0 (Nat.zero_le _) ⟨rfl, rfl, rfl, rfl, rfl, trivial⟩ trivial (fun _ => ⟨rfl, rfl⟩) ?_
    intro i hi
    rcases Nat.lt_or_ge i F1.length with hil | hil
    · obtain ⟨ad1, rfl⟩ := hq1 (by omega)
      obtain ⟨⟨g1, g2⟩, hx1⟩ : ∃ p, F1[i]? = some p := ⟨_, List.getElem?_eq_getElem hil⟩
      have e1 := fun (w' : World) (hw' : Rd 2 flF (.slice (some ad1) F1.length c1) F1 w') => rd_ati hw' hx1
      have hnx : (((F1.take (i + 1)).any fun p => decide (p = (b1, b2))) || ((b2 : Int) == 7)) = ((((F1.take i).any fun p => decide (p = (b1, b2))) || ((b2 : Int) == 7)) || decide ((g1, g2) = (b1, b2))) := by
        rw [take_snoc hx1, List.any_append]
        simp only [List.any_cons, List.any_nil, Bool.or_false]
        cases ((F1.take i).any fun p => decide (p = (b1, b2))) <;> cases ((b2 : Int) == 7) <;> simp
      generalize (((F1.take i).any fun p => decide (p = (b1, b2))) || ((b2 : Int) == 7)) = bv at *
      cases bv with
      | true =>
        repeat'
         conv => whnf
         first
          | refine zA ?_ | refine zB ?_ | refine zC ?_ | refine zD ?_ | refine zE ?_ | refine zF ?_ | refine zG ?_ | refine zH ?_ | refine zJ ?_ | refine zI ?_ | refine splT ?_ | refine splF ?_ | refine splNot ?_
          | ((first | refine splIn (fun hc => ?_) (fun hc => ?_) | refine splD (fun hc => ?_) (fun hc => ?_) | refine splE (fun hc => ?_) (fun hc => ?_) | refine splNE (fun hc => ?_) (fun hc => ?_)) <;> first | (exfalso; omega) | (exfalso; dsimp only at hc; omega) | skip)
        all_goals first | (exfalso; omega) | exact ⟨i + 1, by omega, by omega, Ent.weak rfl ⟨rfl, rfl, rfl, by rw [hnx]; rfl, rfl, trivial⟩ trivial fun w2 h => h⟩
      | false =>
        rw [Bool.false_or] at hnx
        by_cases hg : g1 = b1 ∧ g2 = b2
        · have hd : decide ((g1, g2) = (b1, b2)) = true := decide_eq_true (by rw [hg.1, hg.2])
          rw [hd] at hnx
          have hq : ((g1 : Int) == (b1 : Int) && (g2 : Int) == (b2 : Int)) = true := by simp [hg.1, hg.2]
          repeat'
           conv => whnf
           first
            | refine zA ?_ | refine zB ?_ | refine zC ?_ | refine zD ?_ | refine zE ?_ | refine zF ?_ | refine zG ?_ | refine zH ?_ | refine zJ ?_ | refine zI ?_ | refine splT ?_ | refine splF ?_ | refine splNot ?_
            | ((first | refine splIn (fun hc => ?_) (fun hc => ?_) | refine splD (fun hc => ?_) (fun hc => ?_) | refine splE (fun hc => ?_) (fun hc => ?_) | refine splNE (fun hc => ?_) (fun hc => ?_)) <;> first | (exfalso; omega) | (exfalso; dsimp only at hc; omega) | skip)
            | refine Exists.intro (α := List Value) [iv g1, .int .u8 g2] ⟨⟨rfl, fun w' hw' => e1 w' hw'.1.2⟩, ?_⟩
            | refine Exists.intro (α := List Value) [iv b1, .int .u8 b2] ⟨⟨rfl, fun w' hw' => e2 w' hw'.2⟩, ?_⟩
            | refine eqlE81 hq ?_
          all_goals first | (exfalso; omega) | exact ⟨i + 1, by omega, by omega, Ent.weak rfl ⟨rfl, rfl, rfl, by rw [hnx]; rfl, rfl, trivial⟩ trivial fun w2 h => h⟩
        · have hd : decide ((g1, g2) = (b1, b2)) = false := decide_eq_false (by rw [Prod.mk.injEq]; exact hg)
          rw [hd] at hnx
          have hq : ((g1 : Int) == (b1 : Int) && (g2 : Int) == (b2 : Int)) = false := by
            rw [Bool.and_eq_false_iff, beq_eq_false_iff_ne, beq_eq_false_iff_ne]; omega
          repeat'
           conv => whnf
           first
            | refine zA ?_ | refine zB ?_ | refine zC ?_ | refine zD ?_ | refine zE ?_ | refine zF ?_ | refine zG ?_ | refine zH ?_ | refine zJ ?_ | refine zI ?_ | refine splT ?_ | refine splF ?_ | refine splNot ?_
            | ((first | refine splIn (fun hc => ?_) (fun hc => ?_) | refine splD (fun hc => ?_) (fun hc => ?_) | refine splE (fun hc => ?_) (fun hc => ?_) | refine splNE (fun hc => ?_) (fun hc => ?_)) <;> first | (exfalso; omega) | (exfalso; dsimp only at hc; omega) | skip)
            | refine Exists.intro (α := List Value) [iv g1, .int .u8 g2] ⟨⟨rfl, fun w' hw' => e1 w' hw'.1.2⟩, ?_⟩
            | refine Exists.intro (α := List Value) [iv b1, .int .u8 b2] ⟨⟨rfl, fun w' hw' => e2 w' hw'.2⟩, ?_⟩
            | refine eqlE81 hq ?_
          all_goals first | (exfalso; omega) | exact ⟨i + 1, by omega, by omega, Ent.weak rfl ⟨rfl, rfl, rfl, by rw [hnx]; rfl, rfl, trivial⟩ trivial fun w2 h => h⟩
    · obtain rfl : i = F1.length := by omega
      have hfd : (((F1.take F1.length).any fun p => decide (p = (b1, b2))) || ((b2 : Int) == 7)) = true := by
        rw [List.take_length, Bool.or_eq_true, List.any_eq_true, beq_iff_eq]
        rcases hb with hb | hb
        · exact .inr (by omega)
        · exact .inl ⟨_, hb, by simp⟩
      rw [hfd]
      repeat'
       conv => whnf
       first
        | refine zA ?_ | refine zB ?_ | refine zC ?_ | refine zD ?_ | refine zE ?_ | refine zF ?_ | refine zG ?_ | refine zH ?_ | refine zJ ?_ | refine zI ?_ | refine splT ?_ | refine splF ?_ | refine splNot ?_
        | ((first | refine splIn (fun hc => ?_) (fun hc => ?_) | refine splD (fun hc => ?_) (fun hc => ?_) | refine splE (fun hc => ?_) (fun hc => ?_) | refine splNE (fun hc => ?_) (fun hc => ?_)) <;> first | (exfalso; omega) | (exfalso; dsimp only at hc; omega) | skip)
      all_goals first | (exfalso; omega) | exact ⟨j + 1, by omega, by omega, Ent.weak rfl ⟨rfl, rfl, rfl, trivial⟩ trivial fun w2 h => h⟩
  · obtain rfl : j = F2.length := by omega
    repeat'
     conv => whnf
     first
      | refine zA ?_ | refine zB ?_ | refine zC ?_ | refine zD ?_ | refine zE ?_ | refine zF ?_ | refine zG ?_ | refine zH ?_ | refine zJ ?_ | refine zI ?_ | refine splT ?_ | refine splF ?_ | refine splNot ?_
      | ((first | refine splIn (fun hc => ?_) (fun hc => ?_) | refine splD (fun hc => ?_) (fun hc => ?_) | refine splE (fun hc => ?_) (fun hc => ?_) | refine splNE (fun hc => ?_) (fun hc => ?_)) <;> first | (exfalso; omega) | (exfalso; dsimp only at hc; omega) | skip)
      | ((with_reducible show CallEv _ _ 19 _ _ _ _ _); refine callE (k := 19) (fun β w' hbw => awake_ok w') ?_)
    all_goals first | (exfalso; omega) | exact ⟨fun β => rfl, fun w' h => (by repeat (first | exact h | replace h := h.1))⟩
theorem inB_yes {n lo hi : Int} (h1 : lo ≤ n) (h2 : n ≤ hi) : inB n lo hi = true := by simp only [inB, Bool.and_eq_true, decide_eq_true_eq]; omega
/-- What is known of a copy of a right tour. -/
structure YQ (x y : Tr) : Prop where
  d : y.d = x.d
  t : ∃ a, y.to = some a
  l : ∃ a, y.lo = some a
  r : ∀ (i : Nat) r, y.L[i]? = some r → ∃ a, r.o = some a
set_option maxHeartbeats 4000000 in
set_option maxRecDepth 100000 in
theorem Pa4b (x y : Tr) (o : Option Addr) (c : Nat) (S : List (Int × Int × Int)) (w : World) (hB : toB x.d = true) (hS : SpI0 o c S w) (hl : 1 ≤ S.length ∧ S.length ≤ 20) (hy : YQ x y) (h5 : VC Try.prog (rest 1 (rest 4 body10)) ⟨165, [(1, .v (.slice o S.length c)), (2, .ptr 0 0), (5, .ptr 1 0)], [(0, .cells x.l 25), (1, .cells y.l 35)], 2, fun w2 => Below w.heap.size w w2 ∧ (TrIn y w2 ∧ y.d = x.d), z0⟩ (endΦ env Try.f10 fun s σ => (∀ β, s.c β = .bool true) ∧ ∀ w', σ.h w' → Below w.heap.size w w')) :
    VC Try.prog (rest 4 body10) ⟨165, [(1, .v (.slice o S.length c)), (2, .ptr 0 0), (5, .ptr 1 0), (6, .v (iv (pfV x.d (S.take 1)).1)), (7, .v (iv (pfV x.d (S.take 1)).2))], [(0, .cells x.l 25), (1, .cells y.l 35)], 2, fun w2 => Below w.heap.size w w2 ∧ (TrIn y w2 ∧ y.d = x.d), z0⟩ (endΦ env Try.f10 fun s σ => (∀ β, s.c β = .bool true) ∧ ∀ w', σ.h w' → Below w.heap.size w w') := by
  have hn := toB_n hB
  obtain ⟨s, hs⟩ : ∃ s, S[0]? = some s := ⟨_, List.getElem?_eq_getElem (by omega)⟩
  have ht1 : S.take 1 = [s] := by rw [show (1 : Nat) = 0 + 1 from rfl, take_snoc hs, List.take_zero, List.nil_append]
  have hpv : pfV x.d (S.take 1) = if fsO x.d (S.take 1) = [] then (pfO x.d (S.take 1), 0) else (0, 9) := by unfold pfV; rw [if_pos hB, if_pos (by rw [ht1]; simp)]
  obtain ⟨_, ad, rfl, _⟩ := hS.r.ptr hl.1
  have es := fun (w' : World) (hb : Below w.heap.size w w') => rd_ati (hS.r.below hb) hs
  by_cases hfs : fsO x.d (S.take 1) = []
  · rw [if_pos hfs] at hpv
    obtain ⟨t, f, l, rfl, hk, hfl, hl60⟩ := fs_spn hn hfs s (by rw [ht1]; simp)
    rw [hpv]
    have hp1 := pf_one x.d t f l
    rw [Int.toNat_natCast] at hp1
    have hld : (l : Int) < x.d.days := by
      have hz := flt_all.1 (fsP_nil (m := (S.take 1).length) hfs 0 (by rw [ht1]; simp) t f l (by rw [ht1]; rfl))
      have h4 := (alo_iff hn hk).2 ⟨hz.1.1.2.1, hz.1.1.2.2.1, hz.1.1.2.2.2⟩
      exact (ALO_ok hn t f hk.1 hk.2 l h4).2.2
    rw [ht1, hp1]
    obtain ⟨hyd, ⟨ta, hta⟩, ⟨la, hla⟩, hra⟩ := hy
    have hnT := hn.n
    have hnL := hn.l
    have hcs := fun a b => hn.leg a b
    have hd60 := hn.d
    rw [← hyd] at hld hk hnT hnL hcs hd60
    have hyT : y.d.T.length = y.T.length := List.length_map ..
    have hyL : y.d.L.length = y.L.length := List.length_map ..
    obtain ⟨tw, htw⟩ : ∃ tw, y.T[t]? = some tw := ⟨_, List.getElem?_eq_getElem (by omega)⟩
    obtain ⟨r0, hr0⟩ : ∃ r, y.L[0]? = some r := ⟨_, List.getElem?_eq_getElem (by omega)⟩
    obtain ⟨rt, hrt⟩ : ∃ r, y.L[t]? = some r := ⟨_, List.getElem?_eq_getElem (by omega)⟩
    have hm0 : y.d.L[0]? = some r0.L := by show (y.L.map Lr.L)[0]? = _; rw [List.getElem?_map, hr0]; rfl
    have hmt : y.d.L[t]? = some rt.L := by show (y.L.map Lr.L)[t]? = _; rw [List.getElem?_map, hrt]; rfl
    have hlr := hn.lr
    rw [← hyd] at hlr
    have hl0 := (hlr _ (List.mem_of_getElem? hm0)).1
    have hlt := (hlr _ (List.mem_of_getElem? hmt)).1
    obtain ⟨⟨u1, c1⟩, hp0⟩ : ∃ p, r0.L[t]? = some p := ⟨_, List.getElem?_eq_getElem (by omega)⟩
    obtain ⟨⟨u2, c2⟩, hpt⟩ : ∃ p, rt.L[0]? = some p := ⟨_, List.getElem?_eq_getElem (by omega)⟩
    have hc1 : csO x.d 0 t = c1 := by rw [← hyd]; unfold csO lgO; rw [hm0, Option.getD_some, hp0]; rfl
    have hc2 : csO x.d t 0 = c2 := by rw [← hyd]; unfold csO lgO; rw [hmt, Option.getD_some, hpt]; rfl
    have hb1 := hcs 0 t
    have hb2 := hcs t 0
    have hb1' : (lgO y.d 0 t).2 = c1 := by rw [hyd]; exact hc1
    have hb2' : (lgO y.d t 0).2 = c2 := by rw [hyd]; exact hc2
    have hTt : y.d.T[t]? = some tw.d := by show (y.T.map Tn.d)[t]? = _; rw [List.getElem?_map, htw]; rfl
    have hg : gnO x.d t f l = gnS tw.d f (l + 1 - f) := by
      rw [← hyd]
      unfold gnO; rw [hTt]
      show gnS tw.d f ((l : Int) + 1 - f).toNat = _
      rw [show ((l : Int) + 1 - f).toNat = l + 1 - f from by omega]
    rw [hg, hc1, hc2]
    have hTwB := hn.t t hk.1
    rw [← hyd] at hTwB
    have hTw := TwN.of (hTwB _ hTt)
    have h34 : ∀ (n : Int) w', (TrIn y w' ∧ y.d = x.d) → 0 ≤ n ∧ n ≤ (l : Int) → Calls Try.prog 34 #[y.v, iv t, iv n] w' fun e w2 => e = .returned (.tuple #[iv (dyO tw.d n), iv 0]) ∧ Below w'.heap.size w' w2 := fun n w' h1 h2 => by
      have hv : dayV y.d t n = (dyO tw.d n, 0) := by
        unfold dayV
        rw [if_pos (by rw [hyd]; exact hB), if_pos (by rw [inB_yes (by omega) (by omega), inB_yes (by omega) (by omega)]; rfl), Int.toNat_natCast, hTt]
        rfl
      have := Day_ok y t n w' h1.1
      rw [hv] at this
      exact this
    have hdy := fun n => hTw.day n
    have hpay := hTw.p
    have hrent := hTw.t
    have hgb := fun k => hTw.gn f k
    obtain ⟨ra, hra0⟩ := hra 0 r0 hr0
    obtain ⟨rb, hrbt⟩ := hra t rt hrt
    have e0 : ∀ w', TrIn y w' → ∀ j v, [Value.slice (some ra) r0.L.length r0.c][j]? = some v → w'.cell? ((la.add ((0 : Int).toNat * 1)).add j) = some v := fun w' h => by
      have := h.l
      rw [hla] at this
      have := rd_ati this hr0
      simp only [Lr.cs, hra0] at this
      exact this
    have et : ∀ w', TrIn y w' → ∀ j v, [Value.slice (some rb) rt.L.length rt.c][j]? = some v → w'.cell? ((la.add ((t : Int).toNat * 1)).add j) = some v := fun w' h => by
      have := h.l
      rw [hla] at this
      have := rd_ati this hrt
      simp only [Lr.cs, hrbt] at this
      exact this
    have e0t : ∀ w', TrIn y w' → ∀ j v, [iv c1][j]? = some v → w'.cell? (((ra.add ((t : Int).toNat * 2)).add 1).add j) = some v := fun w' h => by
      have := h.li r0 (List.mem_of_getElem? hr0)
      rw [hra0] at this
      exact rd_fldz this hp0 (t : Int) rfl 1 (iv c1) rfl
    have et0 : ∀ w', TrIn y w' → ∀ j v, [iv c2][j]? = some v → w'.cell? (((rb.add ((0 : Int).toNat * 2)).add 1).add j) = some v := fun w' h => by
      have := h.li rt (List.mem_of_getElem? hrt)
      rw [hrbt] at this
      exact rd_fldz this hpt (0 : Int) rfl 1 (iv c2) rfl
    have er : ∀ w', TrIn y w' → ∀ j v, [iv tw.d.rent][j]? = some v → w'.cell? (((ta.add ((t : Int).toNat * 9)).add 5).add j) = some v := fun w' h => by
      have := h.t
      rw [hta] at this
      exact rd_fldz this htw (t : Int) rfl 5 (iv tw.d.rent) rfl
    have hstep : ∀ k : Nat, -c1 - c2 + gnS tw.d f (k + 1) = -c1 - c2 + gnS tw.d f k + (dyO tw.d (f + k) - tw.d.rent) := fun k => by simp only [gnS]; omega
    have hg0 : gnS tw.d f 0 = 0 := rfl
    have hfin : -c1 - c2 + gnS tw.d f (l + 1 - f) = gnS tw.d f (l + 1 - f) - c1 - c2 := by omega
    have hydd : y.d.days = y.days := rfl
    rw [hydd] at hld hd60
    rw [hyT] at hnT hk
    rw [hyL, hyT] at hnL
    rw [hyT] at hl0 hlt
    clear hpv hp1 hyd hTwB hcs hg hTt hfs hS hTw hn hlr hm0 hmt
    generalize tw.d.rent = rent at *
    generalize dyO tw.d = DY at *
    generalize gnS tw.d f = GS at *
    generalize x.d = xd at *
    refine VC.cutE env mixed 1 2 (fun _ : Unit => [(1, .v (.slice (some ad) S.length c)), (2, .ptr 0 0), (5, .ptr 1 0)]) (fun _ => [(0, .cells x.l 25), (1, .cells y.l 35)]) (fun _ => True) (fun _ _ => ⟨rfl, rfl⟩) ?_ (fun _ _ => h5)
    clear h5
    obtain ⟨days, shift, size, to, tc, T, lo, lc, L⟩ := x
    obtain ⟨yd, ys, yz, yto, ytc, yT, ylo, ylc, yL⟩ := y
    dsimp only at hta hla hnT hnL hld hd60 hl0 hlt hk
    subst hta; subst hla
    dsimp only [Tr.l]
    repeat'
     conv => whnf
     first
      | refine zA ?_ | refine zB ?_ | refine zC ?_ | refine zD ?_ | refine zE ?_ | refine zF ?_ | refine zG ?_ | refine zH ?_ | refine zJ ?_ | refine zI ?_ | refine splT ?_ | refine splF ?_ | refine splNot ?_
      | ((first | refine splIn (fun hc => ?_) (fun hc => ?_) | refine splD (fun hc => ?_) (fun hc => ?_) | refine splE (fun hc => ?_) (fun hc => ?_) | refine splNE (fun hc => ?_) (fun hc => ?_)) <;> first | (exfalso; omega) | (exfalso; dsimp only at hc; omega) | skip)
      | refine Exists.intro (α := List Value) [iv t, iv f, iv l] ⟨⟨rfl, fun w' hw' => es w' (by repeat (first | exact hw' | replace hw' := hw'.1))⟩, ?_⟩
      | refine Exists.intro (α := List Value) [.slice (some ra) r0.L.length r0.c] ⟨⟨rfl, fun w' hw' => e0 w' hw'.2.1⟩, ?_⟩
      | refine Exists.intro (α := List Value) [.slice (some rb) rt.L.length rt.c] ⟨⟨rfl, fun w' hw' => et w' hw'.2.1⟩, ?_⟩
      | refine Exists.intro (α := List Value) [iv c1] ⟨⟨rfl, fun w' hw' => e0t w' hw'.2.1⟩, ?_⟩
      | refine Exists.intro (α := List Value) [iv c2] ⟨⟨rfl, fun w' hw' => et0 w' hw'.2.1⟩, ?_⟩
    all_goals first | (exfalso; omega) | skip
    refine loopE (fun k : Nat => [(1, .v (.slice (some ad) S.length c)), (2, .ptr 0 0), (5, .ptr 1 0), (6, .v (iv (GS (l + 1 - f) - c1 - c2))), (8, .ptr 2 0), (9, .v (iv (-c1 - c2 + GS k))), (10, .v (iv ((f : Int) + k)))]) (fun _ => (2, .cells [.v (iv t), .v (iv f), .v (iv l)] 89) :: [(0, .cells [.v (iv days), .v (iv shift), .v (iv size), .v (.slice to T.length tc), .v (.slice lo L.length lc)] 25), (1, .cells [.v (iv yd), .v (iv ys), .v (iv yz), .v (.slice (some ta) yT.length ytc), .v (.slice (some la) yL.length ylc)] 35)]) (fun k => k ≤ l + 1 - f) (fun k => l + 1 - f - k) 0 (Nat.zero_le _) ⟨rfl, rfl, rfl, rfl, rfl, by rw [hg0, Int.add_zero]; rfl, by rw [Int.natCast_zero, Int.add_zero]; rfl, trivial⟩ ⟨rfl, rfl, rfl, trivial⟩ (fun _ => ⟨rfl, rfl⟩) ?_
    intro k hk2
    have hgk := hgb k
    have hdk := hdy (f + k)
    rcases Nat.lt_or_ge k (l + 1 - f) with hkl | hkl
    · skip
      repeat'
       conv => whnf
       first
        | refine zA ?_ | refine zB ?_ | refine zC ?_ | refine zD ?_ | refine zE ?_ | refine zF ?_ | refine zG ?_ | refine zH ?_ | refine zJ ?_ | refine zI ?_ | refine splT ?_ | refine splF ?_ | refine splNot ?_
        | ((first | refine splIn (fun hc => ?_) (fun hc => ?_) | refine splD (fun hc => ?_) (fun hc => ?_) | refine splE (fun hc => ?_) (fun hc => ?_) | refine splNE (fun hc => ?_) (fun hc => ?_)) <;> first | (exfalso; omega) | (exfalso; dsimp only at hc; omega) | skip)
        | ((with_reducible show CallEv _ _ 34 _ _ _ _ _); refine callE (k := 34) (fun β w' hbw => h34 ((f : Int) + k) w' hbw.2 (by omega)) ?_)
        | refine Exists.intro (α := List Value) [iv rent] ⟨⟨rfl, fun w' hw' => er w' hw'.2.1⟩, ?_⟩
      all_goals first | (exfalso; omega) | exact ⟨k + 1, by omega, by omega, Ent.weak rfl ⟨rfl, rfl, rfl, rfl, rfl, by rw [hstep k]; rfl, by rw [show (f : Int) + ((k + 1 : Nat) : Int) = (f : Int) + k + 1 from by omega]; rfl, trivial⟩ ⟨rfl, rfl, rfl, trivial⟩ fun w2 h => h⟩
    · obtain rfl : k = l + 1 - f := by omega
      rw [hfin]
      repeat'
       conv => whnf
       first
        | refine zA ?_ | refine zB ?_ | refine zC ?_ | refine zD ?_ | refine zE ?_ | refine zF ?_ | refine zG ?_ | refine zH ?_ | refine zJ ?_ | refine zI ?_ | refine splT ?_ | refine splF ?_ | refine splNot ?_
        | ((first | refine splIn (fun hc => ?_) (fun hc => ?_) | refine splD (fun hc => ?_) (fun hc => ?_) | refine splE (fun hc => ?_) (fun hc => ?_) | refine splNE (fun hc => ?_) (fun hc => ?_)) <;> first | (exfalso; omega) | (exfalso; dsimp only at hc; omega) | skip)
      all_goals first | (exfalso; omega) | exact ⟨rfl, (), trivial, Ent.weak rfl ⟨rfl, rfl, rfl, trivial⟩ ⟨rfl, rfl, trivial⟩ fun w2 h => h⟩
  · rw [if_neg hfs] at hpv
    rw [hpv]
    refine VC.cutE env mixed 1 2 (fun _ : Unit => [(1, .v (.slice (some ad) S.length c)), (2, .ptr 0 0), (5, .ptr 1 0)]) (fun _ => [(0, .cells x.l 25), (1, .cells y.l 35)]) (fun _ => True) (fun _ _ => ⟨rfl, rfl⟩) ?_ (fun _ _ => h5)
    repeat'
     conv => whnf
     first
      | refine zA ?_ | refine zB ?_ | refine zC ?_ | refine zD ?_ | refine zE ?_ | refine zF ?_ | refine zG ?_ | refine zH ?_ | refine zJ ?_ | refine zI ?_ | refine splT ?_ | refine splF ?_ | refine splNot ?_
      | ((first | refine splIn (fun hc => ?_) (fun hc => ?_) | refine splD (fun hc => ?_) (fun hc => ?_) | refine splE (fun hc => ?_) (fun hc => ?_) | refine splNE (fun hc => ?_) (fun hc => ?_)) <;> first | (exfalso; omega) | (exfalso; dsimp only at hc; omega) | skip)
    all_goals first | (exfalso; omega) | exact ⟨rfl, (), trivial, Ent.weak rfl ⟨rfl, rfl, rfl, trivial⟩ ⟨rfl, rfl, trivial⟩ fun w2 h => h⟩
/-- A copy of a right tour, of which more is known. -/
theorem tour_yq (x : Tr) (w : World) (h : TrIn x w) (hB : toB x.d = true) : Calls Try.prog 21 #[x.v] w fun e w' => ∃ y : {y : Tr // YQ x y}, e = .returned y.1.v ∧ Below w.heap.size w w' ∧ St w.heap.size (fun w2 => TrIn y.1 w2 ∧ y.1.d = x.d) w' :=
  (Tour_ok x w h (toB_b hB)).mono fun e w' ⟨y, e1, e2, e3⟩ => by
    obtain ⟨g1, g2⟩ := St.now e3
    have hn := toB_n hB
    have hyT : y.T.length = x.d.T.length := by rw [← g2]; exact (List.length_map ..).symm
    have hyL : y.L.length = x.d.L.length := by rw [← g2]; exact (List.length_map ..).symm
    have h1 := hn.n
    have h2 := hn.l
    refine ⟨⟨y, g2, ?_, ?_, fun i r hr => ?_⟩, e1, e2, e3⟩
    · obtain ⟨_, a, e4, _⟩ := g1.t.ptr (by omega); exact ⟨a, e4⟩
    · obtain ⟨_, a, e4, _⟩ := g1.l.ptr (by omega); exact ⟨a, e4⟩
    · have hm := List.mem_of_getElem? hr
      have h3 := (hn.lr r.L (by rw [← g2]; exact List.mem_map.2 ⟨r, hm, rfl⟩)).1
      obtain ⟨_, a, e4, _⟩ := (g1.li r hm).ptr (by omega)
      exact ⟨a, e4⟩
set_option maxHeartbeats 8000000 in
set_option maxRecDepth 100000 in
theorem RouteParts_ok (x : Tr) (o : Option Addr) (c : Nat) (S : List (Int × Int × Int)) (w : World) (h : TrI0 x w) (hS : SpI0 o c S w) : Calls Try.prog 10 #[x.v, .slice o S.length c] w fun e w' => e = .returned (.bool true) ∧ Below w.heap.size w w' := by
  have h22 := fun w' hb => Right_ok x w' (h.below hb)
  have htl := h.tl
  have hsl := hS.l
  obtain ⟨tb, htb⟩ : ∃ b, toB x.d = b := ⟨_, rfl⟩
  rw [htb] at h22
  by_cases hl : 1 ≤ S.length ∧ S.length ≤ 20
  · have h24 := fun w' (hb : Below w.heap.size w w') => near_ok S o c w' (hS.r.below hb) (by omega)
    obtain ⟨nb, hnb⟩ : ∃ b, neB S = b := ⟨_, rfl⟩
    rw [hnb] at h24
    by_cases hg : tb = true ∧ nb = true
    · obtain ⟨rfl, rfl⟩ := hg
      have hI := h.b (toB_b htb)
      have h21 := fun w' hb => tour_yq x w' (hI.below hb) htb
      refine calls_valV env mixed Try.func10 has10 Try.ntmps10 [.agg #[iv x.days, iv x.shift, iv x.size, .slice x.to x.T.length x.tc, .slice x.lo x.L.length x.lc], .slice o S.length c] (by simp) ?_
      refine VC.cutH env mixed 3 2 (fun y : {y : Tr // YQ x y} => [(1, .v (.slice o S.length c)), (2, .ptr 0 0), (5, .ptr 1 0)]) (fun y => [(0, .cells x.l 25), (1, .cells y.1.l 35)]) (fun y w2 => Below w.heap.size w w2 ∧ (TrIn y.1 w2 ∧ y.1.d = x.d)) (fun _ => True) (fun _ _ => ⟨rfl, rfl⟩) ?_ (fun y _ => Pa4 x y.1 o c S w htb hS hl (Pa4b x y.1 o c S w htb hS hl y.2 (Pa5 x y.1 o c S w htb hS hl fun q1 => Pa6 x y.1 o c S w q1 htb hS hl fun q2 => Pa7 x y.1 _ _ q1 q2 w (by rw [List.take_length]; exact fs_take (by omega)) ⟨Nat.le_trans (fsP_len _ _ _) (by rw [List.length_take]; omega), Nat.le_trans (fsP_len _ _ _) (by rw [List.length_take]; omega)⟩ o S.length c)))
      clear h hI htb hnb
      obtain ⟨days, shift, size, to, tc, T, lo, lc, L⟩ := x
      dsimp only at htl
      repeat'
       conv => whnf
       first
        | refine zA ?_ | refine zB ?_ | refine zC ?_ | refine zD ?_ | refine zE ?_ | refine zF ?_ | refine zG ?_ | refine zH ?_ | refine zJ ?_ | refine zI ?_ | refine splT ?_ | refine splF ?_ | refine splNot ?_
        | ((first | refine splIn (fun hc => ?_) (fun hc => ?_) | refine splD (fun hc => ?_) (fun hc => ?_) | refine splE (fun hc => ?_) (fun hc => ?_) | refine splNE (fun hc => ?_) (fun hc => ?_)) <;> first | (exfalso; omega) | (exfalso; dsimp only at hc; omega) | skip)
        | ((with_reducible show CallEv _ _ 22 _ _ _ _ _); refine callE (k := 22) (fun β w' hbw => h22 w' (by repeat (first | exact hbw | replace hbw := hbw.1))) ?_)
        | ((with_reducible show CallEv _ _ 24 _ _ _ _ _); refine callE (k := 24) (fun β w' hbw => h24 w' (by repeat (first | exact hbw | replace hbw := hbw.1))) ?_)
        | ((with_reducible show CallEv _ _ 21 _ _ _ _ _); refine callF [] (fun y : {y : Tr // YQ ⟨days, shift, size, to, tc, T, lo, lc, L⟩ y} => y.1.v) (fun y w2 => TrIn y.1 w2 ∧ y.1.d = Tr.d ⟨days, shift, size, to, tc, T, lo, lc, L⟩) (fun β w' _ hbw => h21 w' (by repeat (first | exact hbw | replace hbw := hbw.1))) ?_; intro y)
      all_goals first | (exfalso; omega) | exact ⟨rfl, y, trivial, Ent.weak rfl ⟨rfl, rfl, rfl, trivial⟩ ⟨rfl, rfl, trivial⟩ fun w2 h => h⟩
    · clear h htb hnb
      obtain ⟨days, shift, size, to, tc, T, lo, lc, L⟩ := x
      dsimp only at htl
      refine calls_val env mixed Try.func10 has10 Try.ntmps10 [.agg #[iv days, iv shift, iv size, .slice to T.length tc, .slice lo L.length lc], .slice o S.length c] (by simp) ?_
      cases tb
      all_goals cases nb
      all_goals first | (exfalso; exact hg ⟨rfl, rfl⟩) | skip
      all_goals clear hg
      all_goals skip
      · skip
        repeat'
         conv => whnf
         first
          | refine zA ?_ | refine zB ?_ | refine zC ?_ | refine zD ?_ | refine zE ?_ | refine zF ?_ | refine zG ?_ | refine zH ?_ | refine zJ ?_ | refine zI ?_ | refine splT ?_ | refine splF ?_ | refine splNot ?_
          | ((first | refine splIn (fun hc => ?_) (fun hc => ?_) | refine splD (fun hc => ?_) (fun hc => ?_) | refine splE (fun hc => ?_) (fun hc => ?_) | refine splNE (fun hc => ?_) (fun hc => ?_)) <;> first | (exfalso; omega) | (exfalso; dsimp only at hc; omega) | skip)
          | ((with_reducible show CallEv _ _ 22 _ _ _ _ _); refine callE (k := 22) (fun β w' hbw => h22 w' (by repeat (first | exact hbw | replace hbw := hbw.1))) ?_)
          | ((with_reducible show CallEv _ _ 24 _ _ _ _ _); refine callE (k := 24) (fun β w' hbw => h24 w' (by repeat (first | exact hbw | replace hbw := hbw.1))) ?_)
          | ((with_reducible show CallEv _ _ 19 _ _ _ _ _); refine callE (k := 19) (fun β w' hbw => awake_ok w') ?_)
        all_goals first | (exfalso; omega) | exact ⟨fun β => rfl, fun w' h => (by repeat (first | exact h | replace h := h.1))⟩
      · skip
        repeat'
         conv => whnf
         first
          | refine zA ?_ | refine zB ?_ | refine zC ?_ | refine zD ?_ | refine zE ?_ | refine zF ?_ | refine zG ?_ | refine zH ?_ | refine zJ ?_ | refine zI ?_ | refine splT ?_ | refine splF ?_ | refine splNot ?_
          | ((first | refine splIn (fun hc => ?_) (fun hc => ?_) | refine splD (fun hc => ?_) (fun hc => ?_) | refine splE (fun hc => ?_) (fun hc => ?_) | refine splNE (fun hc => ?_) (fun hc => ?_)) <;> first | (exfalso; omega) | (exfalso; dsimp only at hc; omega) | skip)
          | ((with_reducible show CallEv _ _ 22 _ _ _ _ _); refine callE (k := 22) (fun β w' hbw => h22 w' (by repeat (first | exact hbw | replace hbw := hbw.1))) ?_)
          | ((with_reducible show CallEv _ _ 24 _ _ _ _ _); refine callE (k := 24) (fun β w' hbw => h24 w' (by repeat (first | exact hbw | replace hbw := hbw.1))) ?_)
          | ((with_reducible show CallEv _ _ 19 _ _ _ _ _); refine callE (k := 19) (fun β w' hbw => awake_ok w') ?_)
        all_goals first | (exfalso; omega) | exact ⟨fun β => rfl, fun w' h => (by repeat (first | exact h | replace h := h.1))⟩
      · skip
        repeat'
         conv => whnf
         first
          | refine zA ?_ | refine zB ?_ | refine zC ?_ | refine zD ?_ | refine zE ?_ | refine zF ?_ | refine zG ?_ | refine zH ?_ | refine zJ ?_ | refine zI ?_ | refine splT ?_ | refine splF ?_ | refine splNot ?_
          | ((first | refine splIn (fun hc => ?_) (fun hc => ?_) | refine splD (fun hc => ?_) (fun hc => ?_) | refine splE (fun hc => ?_) (fun hc => ?_) | refine splNE (fun hc => ?_) (fun hc => ?_)) <;> first | (exfalso; omega) | (exfalso; dsimp only at hc; omega) | skip)
          | ((with_reducible show CallEv _ _ 22 _ _ _ _ _); refine callE (k := 22) (fun β w' hbw => h22 w' (by repeat (first | exact hbw | replace hbw := hbw.1))) ?_)
          | ((with_reducible show CallEv _ _ 24 _ _ _ _ _); refine callE (k := 24) (fun β w' hbw => h24 w' (by repeat (first | exact hbw | replace hbw := hbw.1))) ?_)
          | ((with_reducible show CallEv _ _ 19 _ _ _ _ _); refine callE (k := 19) (fun β w' hbw => awake_ok w') ?_)
        all_goals first | (exfalso; omega) | exact ⟨fun β => rfl, fun w' h => (by repeat (first | exact h | replace h := h.1))⟩
  · clear h htb
    obtain ⟨days, shift, size, to, tc, T, lo, lc, L⟩ := x
    dsimp only at htl
    refine calls_val env mixed Try.func10 has10 Try.ntmps10 [.agg #[iv days, iv shift, iv size, .slice to T.length tc, .slice lo L.length lc], .slice o S.length c] (by simp) ?_
    cases tb
    · skip
      repeat'
       conv => whnf
       first
        | refine zA ?_ | refine zB ?_ | refine zC ?_ | refine zD ?_ | refine zE ?_ | refine zF ?_ | refine zG ?_ | refine zH ?_ | refine zJ ?_ | refine zI ?_ | refine splT ?_ | refine splF ?_ | refine splNot ?_
        | ((first | refine splIn (fun hc => ?_) (fun hc => ?_) | refine splD (fun hc => ?_) (fun hc => ?_) | refine splE (fun hc => ?_) (fun hc => ?_) | refine splNE (fun hc => ?_) (fun hc => ?_)) <;> first | (exfalso; omega) | (exfalso; dsimp only at hc; omega) | skip)
        | ((with_reducible show CallEv _ _ 22 _ _ _ _ _); refine callE (k := 22) (fun β w' hbw => h22 w' (by repeat (first | exact hbw | replace hbw := hbw.1))) ?_)
        | ((with_reducible show CallEv _ _ 19 _ _ _ _ _); refine callE (k := 19) (fun β w' hbw => awake_ok w') ?_)
      all_goals first | (exfalso; omega) | exact ⟨fun β => rfl, fun w' h => (by repeat (first | exact h | replace h := h.1))⟩
    · skip
      repeat'
       conv => whnf
       first
        | refine zA ?_ | refine zB ?_ | refine zC ?_ | refine zD ?_ | refine zE ?_ | refine zF ?_ | refine zG ?_ | refine zH ?_ | refine zJ ?_ | refine zI ?_ | refine splT ?_ | refine splF ?_ | refine splNot ?_
        | ((first | refine splIn (fun hc => ?_) (fun hc => ?_) | refine splD (fun hc => ?_) (fun hc => ?_) | refine splE (fun hc => ?_) (fun hc => ?_) | refine splNE (fun hc => ?_) (fun hc => ?_)) <;> first | (exfalso; omega) | (exfalso; dsimp only at hc; omega) | skip)
        | ((with_reducible show CallEv _ _ 22 _ _ _ _ _); refine callE (k := 22) (fun β w' hbw => h22 w' (by repeat (first | exact hbw | replace hbw := hbw.1))) ?_)
        | ((with_reducible show CallEv _ _ 19 _ _ _ _ _); refine callE (k := 19) (fun β w' hbw => awake_ok w') ?_)
      all_goals first | (exfalso; omega) | exact ⟨fun β => rfl, fun w' h => (by repeat (first | exact h | replace h := h.1))⟩
end Go.Proofs.Ythfabodamhdhaaa
