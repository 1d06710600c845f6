/- The law of what no season does. -/
import Derived.Test.YthfabodamhdhaaaTE
import Derived.Test.YthfabodamhdhaaaTP
import Derived.Test.YthfabodamhdhaaaUG
import Derived.Test.YthfabodamhdhaaaSY
import Derived.Test.YthfabodamhdhaaaTU
namespace Go.Proofs.Ythfabodamhdhaaa
open Go Tx Go.RowKit
set_option linter.unusedSimpArgs false
set_option linter.unusedVariables false

theorem c11_4 : rest 4 body11 = .seq (.region 5 (hdO (rest 4 body11)) true) (rest 5 body11) := by kernel_rfl
theorem c11_5 : rest 5 body11 = .seq (.region 6 (hdO (rest 5 body11)) true) (rest 6 body11) := by kernel_rfl
theorem c11_7 : rest 1 (rest 6 body11) = .seq (.region 9 (hdO (rest 1 (rest 6 body11))) true) (rest 8 body11) := by kernel_rfl
set_option maxHeartbeats 8000000 in
set_option maxRecDepth 100000 in
theorem Ne4 (x y : Tr) (o : Option Addr) (c : Nat) (S : List (Int × Int × Int)) (fo : Option Addr) (fc : Nat) (F : List Int) (b : Int) (bo : Option Addr) (bc : Nat) (R : List Iw) (H : Int) (w : World) (hS : SpI0 o c S w) (hl : S.length ≤ 25) (h5 : VC Try.prog (rest 5 body11) ⟨114, [(1, .v (.slice o S.length c)), (2, .v (.slice fo F.length fc)), (3, .v (iv b)), (4, .v (.slice bo R.length bc)), (5, .ptr 0 0), (11, .ptr 1 0), (13, .v (iv H)), (14, .v (iv 0)), (15, .v (iv (pfV x.d S).1)), (16, .v (iv (pfV x.d S).2))], [(0, .cells x.l 25), (1, .cells y.l 35)], 2, fun w2 => Below w.heap.size w w2 ∧ (TrIn y w2 ∧ y.d = x.d), z0⟩ (endΦ env Try.f11 fun s σ => (∀ β, s.c β = .bool true) ∧ ∀ w', σ.h w' → Below w.heap.size w w')) :
    VC Try.prog (rest 4 body11) ⟨114, [(1, .v (.slice o S.length c)), (2, .v (.slice fo F.length fc)), (3, .v (iv b)), (4, .v (.slice bo R.length bc)), (5, .ptr 0 0), (11, .ptr 1 0), (13, .v (iv H)), (14, .v (iv 0))], [(0, .cells x.l 25), (1, .cells y.l 35)], 2, fun w2 => Below w.heap.size w w2 ∧ (TrIn y w2 ∧ y.d = x.d), z0⟩ (endΦ env Try.f11 fun s σ => (∀ β, s.c β = .bool true) ∧ ∀ w', σ.h w' → Below w.heap.size w w') := by
  have h41 := fun w' (hb : Below w.heap.size w w') => Season_ok S o c w' (hS.r.below hb) (by omega)
  have h42 : ∀ (y3 : Option Addr × Nat) w', (TrIn y w' ∧ y.d = x.d) → (Rd 3 spF (sV S.length y3) S w' ∧ S.length ≤ y3.2) → Calls Try.prog 42 #[y.v, sV S.length y3] w' fun e w2 => ∃ _ : Unit, e = .returned (.tuple #[iv (pfV x.d S).1, iv (pfV x.d S).2]) ∧ Below w'.heap.size w' w2 ∧ St w'.heap.size (fun _ => True) w2 := fun y3 w' h1 h2 => by
    have := Profit_ok y y3.1 y3.2 S w' h1.1 ⟨h2.1, by omega, h2.2, fun s hs => ⟨(hS.n s hs).2.1, (hS.n s hs).2.2⟩⟩
    rw [h1.2] at this
    exact this.mono fun e w2 h => ⟨(), h.1, h.2, fun _ _ => trivial⟩
  rw [c11_4]
  refine VC.seq (f := fun σ' => Ent σ' ⟨114, [(1, .v (.slice o S.length c)), (2, .v (.slice fo F.length fc)), (3, .v (iv b)), (4, .v (.slice bo R.length bc)), (5, .ptr 0 0), (11, .ptr 1 0), (13, .v (iv H)), (14, .v (iv 0)), (15, .v (iv (pfV x.d S).1)), (16, .v (iv (pfV x.d S).2))], [(0, .cells x.l 25), (1, .cells y.l 35)], 2, fun w2 => Below w.heap.size w w2 ∧ (TrIn y w2 ∧ y.d = x.d), z0⟩) ?_ (fun σ' hz => VC.ent h5 hz (okB rfl rfl rfl))
  clear h5 hS
  generalize (pfV x.d S).1 = p1 at *
  generalize (pfV x.d S).2 = p2 at *
  generalize S.length = n at *
  generalize F.length = m at *
  generalize R.length = k at *
  generalize hxd : x.d = xd at *
  obtain ⟨days, shift, size, to, tc, T, lo, lc, L⟩ := x
  obtain ⟨yd, ys, yz, yto, ytc, yT, ylo, ylc, yL⟩ := y
  apply VC_reg2 env mixed 2 3 (fun y3 : Option Addr × Nat => sV n y3) (fun y3 w3 => Rd 3 spF (sV n y3) S w3 ∧ n ≤ y3.2) (fun _ : Unit => .tuple #[iv p1, iv p2]) (fun _ _ => True) (none, 0) ()
  case h12 => decide
  case h3 => exact Nat.le_of_ble_eq_true (by kernel_rfl)
  case hd12 => kernel_rfl
  case hv =>
    intro y3 _
    repeat'
     conv => whnf
     first
      | refine zA ?_ | refine zB ?_ | refine zC ?_ | refine zD ?_ | refine zE ?_ | refine zF ?_ | refine zG ?_ | refine zH ?_ | refine zJ ?_ | refine zI ?_ | refine splT ?_ | refine splF ?_ | refine splNot ?_
      | ((first | refine splIn (fun hc => ?_) (fun hc => ?_) | refine splD (fun hc => ?_) (fun hc => ?_) | refine splE (fun hc => ?_) (fun hc => ?_) | refine splNE (fun hc => ?_) (fun hc => ?_)) <;> first | (exfalso; omega) | (exfalso; dsimp only at hc; omega) | skip)
      | refine And.intro (a := (_ : Bool) = true ∧ (_ : List _) = [] ∧ (_ : List _) = []) ⟨rfl, rfl, rfl⟩ ?_
      | (with_reducible show FamEv _ _ _ 41 _ _ _); refine FamEv.mk [] (fun β w' _ hbw => h41 w' (by repeat (first | exact hbw | replace hbw := hbw.1))) ?_
      | (with_reducible show FamEv _ _ _ 42 _ _ _); refine FamEv.mk [] (fun β w' _ hbw => h42 y3 w' hbw.1.2 hbw.2) ?_
    refine ⟨?_, Ent.weak rfl ⟨rfl, rfl, rfl, rfl, rfl, rfl, rfl, rfl, rfl, rfl, trivial⟩ ⟨rfl, rfl, trivial⟩ fun w2 h => h.1.1⟩
    simp only [List.nil_append, List.cons_append, List.append_assoc]
    exact rfl
  case hk1 => intros; rfl
  case hk2 => intros; rfl
  case hi1 => exact fun _ _ _ => ⟨Or.inr rfl, Or.inr rfl, Or.inl (by kernel_rfl), Or.inl (by kernel_rfl), Or.inl (by kernel_rfl), Or.inl (by kernel_rfl), Or.inl (by kernel_rfl), Or.inl (by kernel_rfl), Or.inl (by kernel_rfl), trivial⟩
  case hi2 => exact fun _ _ _ => ⟨Or.inr rfl, Or.inr rfl, Or.inr rfl, Or.inl (by kernel_rfl), Or.inl (by kernel_rfl), Or.inl (by kernel_rfl), Or.inl (by kernel_rfl), Or.inl (by kernel_rfl), Or.inl (by kernel_rfl), trivial⟩
set_option maxHeartbeats 8000000 in
set_option maxRecDepth 100000 in
theorem Ne5 (x y : Tr) (o : Option Addr) (c : Nat) (S : List (Int × Int × Int)) (fo : Option Addr) (fc : Nat) (F : List Int) (b : Int) (bo : Option Addr) (bc : Nat) (R : List Iw) (H : Int) (w : World) (p1 p2 : Int) (hB : toB x.d = true) (hF : Rd 1 iF (.slice fo F.length fc) F w) (hl : F.length ≤ 15) (h6 : VC Try.prog (rest 6 body11) ⟨114, [(1, .v (.slice o S.length c)), (2, .v (.slice fo F.length fc)), (3, .v (iv b)), (4, .v (.slice bo R.length bc)), (5, .ptr 0 0), (11, .ptr 1 0), (13, .v (iv H)), (14, .v (iv 0)), (15, .v (iv p1)), (16, .v (iv p2)), (17, .v (iv (if feB x.T.length F = true then bdO F (tabO x.d F) else 0))), (19, .v (iv (if feB x.T.length F = true then (0 : Int) else 1)))], [(0, .cells x.l 25), (1, .cells y.l 35)], 2, fun w2 => Below w.heap.size w w2 ∧ (TrIn y w2 ∧ y.d = x.d), z0⟩ (endΦ env Try.f11 fun s σ => (∀ β, s.c β = .bool true) ∧ ∀ w', σ.h w' → Below w.heap.size w w')) :
    VC Try.prog (rest 5 body11) ⟨114, [(1, .v (.slice o S.length c)), (2, .v (.slice fo F.length fc)), (3, .v (iv b)), (4, .v (.slice bo R.length bc)), (5, .ptr 0 0), (11, .ptr 1 0), (13, .v (iv H)), (14, .v (iv 0)), (15, .v (iv p1)), (16, .v (iv p2))], [(0, .cells x.l 25), (1, .cells y.l 35)], 2, fun w2 => Below w.heap.size w w2 ∧ (TrIn y w2 ∧ y.d = x.d), z0⟩ (endΦ env Try.f11 fun s σ => (∀ β, s.c β = .bool true) ∧ ∀ w', σ.h w' → Below w.heap.size w w') := by
  have h29 := fun w' (hb : Below w.heap.size w w') => list_ok F fo fc w' (hF.below hb) (by omega)
  have h28 : ∀ (y3 : Option Addr × Nat) w', (TrIn y w' ∧ y.d = x.d) → Rd 1 iF (sV F.length y3) F w' → Calls Try.prog 28 #[y.v, sV F.length y3] w' fun e w2 => ∃ v : Value, e = .returned (.tuple #[iv (if feB x.T.length F = true then bdO F (tabO x.d F) else 0), v, iv (if feB x.T.length F = true then (0 : Int) else 1)]) ∧ Below w'.heap.size w' w2 ∧ St w'.heap.size (fun _ => True) w2 := fun y3 w' h1 h2 => by
    have hyl : y.T.length = x.T.length := by
      have := congrArg (fun x : To => x.T.length) h1.2
      simpa [Tr.d] using this
    by_cases hf : feB x.T.length F = true
    · rw [if_pos hf, if_pos hf]
      have := Bound_yes y y3.1 y3.2 F w' h1.1 h2 (by rw [h1.2]; exact hB) (by rw [hyl]; exact hf)
      rw [h1.2] at this
      exact this.mono fun e w2 ⟨z, e1, e2, e3⟩ => ⟨z.v, e1, e2, fun _ _ => trivial⟩
    · rw [if_neg hf, if_neg hf]
      have := Bound_no y y3.1 y3.2 F w' h1.1 h2 (by omega) (by rw [hyl, Bool.and_eq_false_iff]; exact .inr (by simpa using hf))
      exact this.mono fun e w2 ⟨e1, e2⟩ => ⟨_, e1, e2, fun _ _ => trivial⟩
  rw [c11_5]
  refine VC.seq (f := fun σ' => Ent σ' ⟨114, [(1, .v (.slice o S.length c)), (2, .v (.slice fo F.length fc)), (3, .v (iv b)), (4, .v (.slice bo R.length bc)), (5, .ptr 0 0), (11, .ptr 1 0), (13, .v (iv H)), (14, .v (iv 0)), (15, .v (iv p1)), (16, .v (iv p2)), (17, .v (iv (if feB x.T.length F = true then bdO F (tabO x.d F) else 0))), (19, .v (iv (if feB x.T.length F = true then (0 : Int) else 1)))], [(0, .cells x.l 25), (1, .cells y.l 35)], 2, fun w2 => Below w.heap.size w w2 ∧ (TrIn y w2 ∧ y.d = x.d), z0⟩) ?_ (fun σ' hz => VC.ent h6 hz (okB rfl rfl rfl))
  clear h6 hF hB
  generalize (if feB x.T.length F = true then bdO F (tabO x.d F) else 0) = bb at *
  generalize (if feB x.T.length F = true then (0 : Int) else 1) = be at *
  generalize S.length = n at *
  generalize F.length = m at *
  generalize R.length = k at *
  generalize hxd : x.d = xd at *
  obtain ⟨days, shift, size, to, tc, T, lo, lc, L⟩ := x
  obtain ⟨yd, ys, yz, yto, ytc, yT, ylo, ylc, yL⟩ := y
  apply VC_reg2 env mixed 2 3 (fun y3 : Option Addr × Nat => sV m y3) (fun y3 w3 => Rd 1 iF (sV m y3) F w3) (fun v : Value => .tuple #[iv bb, v, iv be]) (fun _ _ => True) (none, 0) (.bool true)
  case h12 => decide
  case h3 => exact Nat.le_of_ble_eq_true (by kernel_rfl)
  case hd12 => kernel_rfl
  case hv =>
    intro y3 v
    repeat'
     conv => whnf
     first
      | refine zA ?_ | refine zB ?_ | refine zC ?_ | refine zD ?_ | refine zE ?_ | refine zF ?_ | refine zG ?_ | refine zH ?_ | refine zJ ?_ | refine zI ?_ | refine splT ?_ | refine splF ?_ | refine splNot ?_
      | ((first | refine splIn (fun hc => ?_) (fun hc => ?_) | refine splD (fun hc => ?_) (fun hc => ?_) | refine splE (fun hc => ?_) (fun hc => ?_) | refine splNE (fun hc => ?_) (fun hc => ?_)) <;> first | (exfalso; omega) | (exfalso; dsimp only at hc; omega) | skip)
      | refine And.intro (a := (_ : Bool) = true ∧ (_ : List _) = [] ∧ (_ : List _) = []) ⟨rfl, rfl, rfl⟩ ?_
      | (with_reducible show FamEv _ _ _ 29 _ _ _); refine FamEv.mk [] (fun β w' _ hbw => h29 w' (by repeat (first | exact hbw | replace hbw := hbw.1))) ?_
      | (with_reducible show FamEv _ _ _ 28 _ _ _); refine FamEv.mk [] (fun β w' _ hbw => h28 y3 w' hbw.1.2 hbw.2) ?_
    refine ⟨?_, Ent.weak rfl ⟨rfl, rfl, rfl, rfl, rfl, rfl, rfl, rfl, rfl, rfl, rfl, rfl, trivial⟩ ⟨rfl, rfl, trivial⟩ fun w2 h => h.1.1⟩
    simp only [List.nil_append, List.cons_append, List.append_assoc]
    exact rfl
  case hk1 => intros; rfl
  case hk2 => intros; rfl
  case hi1 => exact fun _ _ _ => ⟨Or.inr rfl, Or.inr rfl, Or.inl (by kernel_rfl), Or.inl (by kernel_rfl), Or.inl (by kernel_rfl), Or.inl (by kernel_rfl), Or.inl (by kernel_rfl), Or.inl (by kernel_rfl), Or.inl (by kernel_rfl), Or.inl (by kernel_rfl), Or.inl (by kernel_rfl), trivial⟩
  case hi2 => exact fun _ _ _ => ⟨Or.inr rfl, Or.inr rfl, Or.inr rfl, Or.inl (by kernel_rfl), Or.inl (by kernel_rfl), Or.inl (by kernel_rfl), Or.inl (by kernel_rfl), Or.inl (by kernel_rfl), Or.inl (by kernel_rfl), Or.inl (by kernel_rfl), Or.inl (by kernel_rfl), trivial⟩
set_option maxHeartbeats 8000000 in
set_option maxRecDepth 100000 in
theorem Ne6 (x y : Tr) (o : Option Addr) (c : Nat) (S : List (Int × Int × Int)) (fo : Option Addr) (fc : Nat) (F : List Int) (b : Int) (bo : Option Addr) (bc : Nat) (R : List Iw) (H : Int) (w : World) (p1 p2 bb be : Int) (hH : 0 ≤ H) (hp : p2 = 0 → p1 ≤ H) (hb : (be = 0 ∧ H ≤ bb) ∨ be = 1) (n m k : Nat) (h7 : VC Try.prog (rest 1 (rest 6 body11)) ⟨114, [(1, .v (.slice o n c)), (2, .v (.slice fo m fc)), (3, .v (iv b)), (4, .v (.slice bo k bc)), (5, .ptr 0 0), (11, .ptr 1 0), (13, .v (iv H)), (14, .v (iv 0))], [(0, .cells x.l 25), (1, .cells y.l 35)], 2, fun w2 => Below w.heap.size w w2 ∧ (TrIn y w2 ∧ y.d = x.d), z0⟩ (endΦ env Try.f11 fun s σ => (∀ β, s.c β = .bool true) ∧ ∀ w', σ.h w' → Below w.heap.size w w')) :
    VC Try.prog (rest 6 body11) ⟨114, [(1, .v (.slice o n c)), (2, .v (.slice fo m fc)), (3, .v (iv b)), (4, .v (.slice bo k bc)), (5, .ptr 0 0), (11, .ptr 1 0), (13, .v (iv H)), (14, .v (iv 0)), (15, .v (iv p1)), (16, .v (iv p2)), (17, .v (iv bb)), (19, .v (iv be))], [(0, .cells x.l 25), (1, .cells y.l 35)], 2, fun w2 => Below w.heap.size w w2 ∧ (TrIn y w2 ∧ y.d = x.d), z0⟩ (endΦ env Try.f11 fun s σ => (∀ β, s.c β = .bool true) ∧ ∀ w', σ.h w' → Below w.heap.size w w') := by
  refine VC.cutE env mixed 1 2 (fun _ : Unit => [(1, .v (.slice o n c)), (2, .v (.slice fo m fc)), (3, .v (iv b)), (4, .v (.slice bo k bc)), (5, .ptr 0 0), (11, .ptr 1 0), (13, .v (iv H)), (14, .v (iv 0))]) (fun _ => [(0, .cells x.l 25), (1, .cells y.l 35)]) (fun _ => True) (fun _ _ => ⟨rfl, rfl⟩) ?_ (fun _ _ => h7)
  clear h7
  by_cases hp2 : p2 = 0
  · have hp1 := hp hp2
    rcases hb with ⟨hb1, hb2⟩ | hb1
    · skip
      repeat'
       conv => whnf
       first
        | refine zA ?_ | refine zB ?_ | refine zC ?_ | refine zD ?_ | refine zE ?_ | refine zF ?_ | refine zG ?_ | refine zH ?_ | refine zJ ?_ | refine zI ?_ | refine splT ?_ | refine splF ?_ | refine splNot ?_
        | ((first | refine splIn (fun hc => ?_) (fun hc => ?_) | refine splD (fun hc => ?_) (fun hc => ?_) | refine splE (fun hc => ?_) (fun hc => ?_) | refine splNE (fun hc => ?_) (fun hc => ?_)) <;> first | (exfalso; omega) | (exfalso; dsimp only at hc; omega) | skip)
      all_goals first | (exfalso; omega) | exact ⟨rfl, (), trivial, Ent.weak rfl ⟨rfl, rfl, rfl, rfl, rfl, rfl, rfl, rfl, trivial⟩ ⟨rfl, rfl, trivial⟩ fun w2 h => h⟩
    · skip
      repeat'
       conv => whnf
       first
        | refine zA ?_ | refine zB ?_ | refine zC ?_ | refine zD ?_ | refine zE ?_ | refine zF ?_ | refine zG ?_ | refine zH ?_ | refine zJ ?_ | refine zI ?_ | refine splT ?_ | refine splF ?_ | refine splNot ?_
        | ((first | refine splIn (fun hc => ?_) (fun hc => ?_) | refine splD (fun hc => ?_) (fun hc => ?_) | refine splE (fun hc => ?_) (fun hc => ?_) | refine splNE (fun hc => ?_) (fun hc => ?_)) <;> first | (exfalso; omega) | (exfalso; dsimp only at hc; omega) | skip)
      all_goals first | (exfalso; omega) | exact ⟨rfl, (), trivial, Ent.weak rfl ⟨rfl, rfl, rfl, rfl, rfl, rfl, rfl, rfl, trivial⟩ ⟨rfl, rfl, trivial⟩ fun w2 h => h⟩
  · rcases hb with ⟨hb1, hb2⟩ | hb1
    · skip
      repeat'
       conv => whnf
       first
        | refine zA ?_ | refine zB ?_ | refine zC ?_ | refine zD ?_ | refine zE ?_ | refine zF ?_ | refine zG ?_ | refine zH ?_ | refine zJ ?_ | refine zI ?_ | refine splT ?_ | refine splF ?_ | refine splNot ?_
        | ((first | refine splIn (fun hc => ?_) (fun hc => ?_) | refine splD (fun hc => ?_) (fun hc => ?_) | refine splE (fun hc => ?_) (fun hc => ?_) | refine splNE (fun hc => ?_) (fun hc => ?_)) <;> first | (exfalso; omega) | (exfalso; dsimp only at hc; omega) | skip)
      all_goals first | (exfalso; omega) | exact ⟨rfl, (), trivial, Ent.weak rfl ⟨rfl, rfl, rfl, rfl, rfl, rfl, rfl, rfl, trivial⟩ ⟨rfl, rfl, trivial⟩ fun w2 h => h⟩
    · skip
      repeat'
       conv => whnf
       first
        | refine zA ?_ | refine zB ?_ | refine zC ?_ | refine zD ?_ | refine zE ?_ | refine zF ?_ | refine zG ?_ | refine zH ?_ | refine zJ ?_ | refine zI ?_ | refine splT ?_ | refine splF ?_ | refine splNot ?_
        | ((first | refine splIn (fun hc => ?_) (fun hc => ?_) | refine splD (fun hc => ?_) (fun hc => ?_) | refine splE (fun hc => ?_) (fun hc => ?_) | refine splNE (fun hc => ?_) (fun hc => ?_)) <;> first | (exfalso; omega) | (exfalso; dsimp only at hc; omega) | skip)
      all_goals first | (exfalso; omega) | exact ⟨rfl, (), trivial, Ent.weak rfl ⟨rfl, rfl, rfl, rfl, rfl, rfl, rfl, rfl, trivial⟩ ⟨rfl, rfl, trivial⟩ fun w2 h => h⟩
set_option maxHeartbeats 8000000 in
set_option maxRecDepth 100000 in
theorem Ne7 (x y : Tr) (o : Option Addr) (c : Nat) (S : List (Int × Int × Int)) (fo : Option Addr) (fc : Nat) (F : List Int) (b : Int) (bo : Option Addr) (bc : Nat) (R : List Iw) (H : Int) (w : World) (hF : Rd 1 iF (.slice fo F.length fc) F w) (hl : F.length ≤ 15) (hR : Rd 1 Iw.cs (.slice bo R.length bc) R w) (hRr : ∀ r ∈ R, Rd 1 iF (.slice r.o r.xs.length r.c) r.xs w) (hRl : R.length ≤ 12) (hRn : ∀ r ∈ R, r.xs.length ≤ 17592186043904) (pb : Bool) (hpb : ((toB x.d && feB x.T.length F) && shO x.d F b (R.map Iw.xs)) = pb) (hpH : pb = true → H ≤ b) (n : Nat) :
    VC Try.prog (rest 1 (rest 6 body11)) ⟨114, [(1, .v (.slice o n c)), (2, .v (.slice fo F.length fc)), (3, .v (iv b)), (4, .v (.slice bo R.length bc)), (5, .ptr 0 0), (11, .ptr 1 0), (13, .v (iv H)), (14, .v (iv 0))], [(0, .cells x.l 25), (1, .cells y.l 35)], 2, fun w2 => Below w.heap.size w w2 ∧ (TrIn y w2 ∧ y.d = x.d), z0⟩ (endΦ env Try.f11 fun s σ => (∀ β, s.c β = .bool true) ∧ ∀ w', σ.h w' → Below w.heap.size w w') := by
  have h29 := fun w' (hb : Below w.heap.size w w') => list_ok F fo fc w' (hF.below hb) (by omega)
  have h44 : ∀ w', Below w.heap.size w w' → Calls Try.prog 44 #[.slice bo R.length bc] w' fun e w2 => ∃ y4 : {y4 : (Option Addr × Nat) × List Iw // y4.2.map Iw.xs = R.map Iw.xs}, e = .returned (.slice y4.1.1.1 y4.1.2.length y4.1.1.2) ∧ Below w'.heap.size w' w2 ∧ St w'.heap.size (fun w3 => Rd 1 Iw.cs (.slice y4.1.1.1 y4.1.2.length y4.1.1.2) y4.1.2 w3 ∧ ∀ r ∈ y4.1.2, Rd 1 iF (.slice r.o r.xs.length r.c) r.xs w3) w2 := fun w' hb =>
    (rows_ok R bo bc w' (hR.below hb) (fun r hr => (hRr r hr).below hb) (by omega) hRn).mono fun e w2 ⟨y4, e1, e2, e3⟩ => ⟨⟨y4, (St.now e3).2⟩, e1, e2, e3.imp fun w3 h => h.1⟩
  have h43 : ∀ (y3 : Option Addr × Nat) (y4 : {y4 : (Option Addr × Nat) × List Iw // y4.2.map Iw.xs = R.map Iw.xs}) w', (TrIn y w' ∧ y.d = x.d) → Rd 1 iF (sV F.length y3) F w' → (Rd 1 Iw.cs (.slice y4.1.1.1 y4.1.2.length y4.1.1.2) y4.1.2 w' ∧ ∀ r ∈ y4.1.2, Rd 1 iF (.slice r.o r.xs.length r.c) r.xs w') →
      Calls Try.prog 43 #[y.v, sV F.length y3, iv b, .slice y4.1.1.1 y4.1.2.length y4.1.1.2] w' fun e w2 => ∃ _ : Unit, e = .returned (.bool pb) ∧ Below w'.heap.size w' w2 ∧ St w'.heap.size (fun _ => True) w2 := fun y3 y4 w' h1 h2 h3 => by
    have hyl : y.T.length = x.T.length := by
      have := congrArg (fun x : To => x.T.length) h1.2
      simpa [Tr.d] using this
    have hl3 : y4.1.2.length = R.length := by simpa using congrArg List.length y4.2
    have hr3 : ∀ r ∈ y4.1.2, r.xs.length ≤ 17592186043904 := fun r hr => by
      have h4 : r.xs ∈ R.map Iw.xs := by rw [← y4.2]; exact List.mem_map.2 ⟨r, hr, rfl⟩
      obtain ⟨r', h5, h6⟩ := List.mem_map.1 h4
      rw [← h6]; exact hRn r' h5
    have := PB_ok y y3.1 y3.2 F b y4.1.1.1 y4.1.1.2 y4.1.2 w' h1.1 h2 (by omega) h3.1 h3.2 (by omega) hr3
    rw [h1.2, hyl, y4.2, hpb] at this
    exact this.mono fun e w2 h => ⟨(), h.1, h.2, fun _ _ => trivial⟩
  rw [c11_7]
  refine VC.seq (f := fun σ' => Ent σ' ⟨114, [(10, .v (.bool true))], [], 2, fun w2 => Below w.heap.size w w2, z0⟩) ?_ (fun σ' hz => VC.ent (VC.of env mixed ?_) hz (okB rfl rfl rfl))
  · clear hF hR hRr hRn hpb
    generalize F.length = m at *
    generalize R.length = k at *
    generalize hxd : x.d = xd at *
    obtain ⟨days, shift, size, to, tc, T, lo, lc, L⟩ := x
    obtain ⟨yd, ys, yz, yto, ytc, yT, ylo, ylc, yL⟩ := y
    cases pb with
    | true =>
      have hpH2 := hpH rfl
      apply VC_reg3 env mixed 2 5 6 (fun y3 : Option Addr × Nat => sV m y3) (fun y3 w3 => Rd 1 iF (sV m y3) F w3) (fun y4 : {y4 : (Option Addr × Nat) × List Iw // y4.2.map Iw.xs = R.map Iw.xs} => .slice y4.1.1.1 y4.1.2.length y4.1.1.2) (fun y4 w3 => Rd 1 Iw.cs (.slice y4.1.1.1 y4.1.2.length y4.1.1.2) y4.1.2 w3 ∧ ∀ r ∈ y4.1.2, Rd 1 iF (.slice r.o r.xs.length r.c) r.xs w3) (fun _ : Unit => .bool true) (fun _ _ => True) (none, 0) ⟨((none, 0), R), rfl⟩ ()
      case h12 => decide
      case h23 => decide
      case h3 => exact Nat.le_of_ble_eq_true (by kernel_rfl)
      case hd12 => kernel_rfl
      case hd13 => kernel_rfl
      case hd23 => kernel_rfl
      case hv =>
        intro y3 y4 _
        repeat'
         conv => whnf
         first
          | refine zA ?_ | refine zB ?_ | refine zC ?_ | refine zD ?_ | refine zE ?_ | refine zF ?_ | refine zG ?_ | refine zH ?_ | refine zJ ?_ | refine zI ?_ | refine splT ?_ | refine splF ?_ | refine splNot ?_
          | ((first | refine splIn (fun hc => ?_) (fun hc => ?_) | refine splD (fun hc => ?_) (fun hc => ?_) | refine splE (fun hc => ?_) (fun hc => ?_) | refine splNE (fun hc => ?_) (fun hc => ?_)) <;> first | (exfalso; omega) | (exfalso; dsimp only at hc; omega) | skip)
          | refine And.intro (a := (_ : Bool) = true ∧ (_ : List _) = [] ∧ (_ : List _) = []) ⟨rfl, rfl, rfl⟩ ?_
          | (with_reducible show FamEv _ _ _ 29 _ _ _); refine FamEv.mk [] (fun β w' _ hbw => h29 w' (by repeat (first | exact hbw | replace hbw := hbw.1))) ?_
          | (with_reducible show FamEv _ _ _ 44 _ _ _); refine FamEv.mk [] (fun β w' _ hbw => h44 w' (by repeat (first | exact hbw | replace hbw := hbw.1))) ?_
          | (with_reducible show FamEv _ _ _ 43 _ _ _); refine FamEv.mk [] (fun β w' _ hbw => h43 y3 y4 w' hbw.1.1.2 hbw.1.2 hbw.2) ?_
          | ((with_reducible show CallEv _ _ 19 _ _ _ _ _); refine callE (k := 19) (fun β w' hbw => awake_ok w') ?_)
        refine ⟨?_, Ent.weak rfl ⟨rfl, trivial⟩ trivial fun w2 h => h.1.1.1.1⟩
        simp only [List.nil_append, List.cons_append, List.append_assoc]
        exact rfl
      case hk1 => intros; rfl
      case hk2 => intros; rfl
      case hk3 => intros; rfl
      case hi1 => exact fun _ _ _ _ => ⟨Or.inr rfl, Or.inr rfl, Or.inl (by kernel_rfl), Or.inr rfl, Or.inr rfl, Or.inl (by kernel_rfl), Or.inl (by kernel_rfl), Or.inl (by kernel_rfl), Or.inl (by kernel_rfl), Or.inl (by kernel_rfl), Or.inl (by kernel_rfl), Or.inl (by kernel_rfl), Or.inl (by kernel_rfl), Or.inl (by kernel_rfl), Or.inl (by kernel_rfl), Or.inl (by kernel_rfl), Or.inl (by kernel_rfl), trivial⟩
      case hi2 => exact fun _ _ _ _ => ⟨Or.inr rfl, Or.inr rfl, Or.inr rfl, Or.inr rfl, Or.inr rfl, Or.inl (by kernel_rfl), Or.inl (by kernel_rfl), Or.inl (by kernel_rfl), Or.inl (by kernel_rfl), Or.inl (by kernel_rfl), Or.inl (by kernel_rfl), Or.inl (by kernel_rfl), Or.inl (by kernel_rfl), Or.inl (by kernel_rfl), Or.inl (by kernel_rfl), Or.inl (by kernel_rfl), Or.inl (by kernel_rfl), trivial⟩
      case hi3 => exact fun _ _ _ _ => ⟨Or.inr rfl, Or.inr rfl, Or.inr rfl, Or.inr rfl, Or.inr rfl, Or.inr rfl, Or.inl (by kernel_rfl), Or.inl (by kernel_rfl), Or.inl (by kernel_rfl), Or.inl (by kernel_rfl), Or.inl (by kernel_rfl), Or.inl (by kernel_rfl), Or.inl (by kernel_rfl), Or.inl (by kernel_rfl), Or.inl (by kernel_rfl), Or.inl (by kernel_rfl), Or.inl (by kernel_rfl), trivial⟩
    | false =>
      apply VC_reg3 env mixed 2 5 6 (fun y3 : Option Addr × Nat => sV m y3) (fun y3 w3 => Rd 1 iF (sV m y3) F w3) (fun y4 : {y4 : (Option Addr × Nat) × List Iw // y4.2.map Iw.xs = R.map Iw.xs} => .slice y4.1.1.1 y4.1.2.length y4.1.1.2) (fun y4 w3 => Rd 1 Iw.cs (.slice y4.1.1.1 y4.1.2.length y4.1.1.2) y4.1.2 w3 ∧ ∀ r ∈ y4.1.2, Rd 1 iF (.slice r.o r.xs.length r.c) r.xs w3) (fun _ : Unit => .bool false) (fun _ _ => True) (none, 0) ⟨((none, 0), R), rfl⟩ ()
      case h12 => decide
      case h23 => decide
      case h3 => exact Nat.le_of_ble_eq_true (by kernel_rfl)
      case hd12 => kernel_rfl
      case hd13 => kernel_rfl
      case hd23 => kernel_rfl
      case hv =>
        intro y3 y4 _
        repeat'
         conv => whnf
         first
          | refine zA ?_ | refine zB ?_ | refine zC ?_ | refine zD ?_ | refine zE ?_ | refine zF ?_ | refine zG ?_ | refine zH ?_ | refine zJ ?_ | refine zI ?_ | refine splT ?_ | refine splF ?_ | refine splNot ?_
          | ((first | refine splIn (fun hc => ?_) (fun hc => ?_) | refine splD (fun hc => ?_) (fun hc => ?_) | refine splE (fun hc => ?_) (fun hc => ?_) | refine splNE (fun hc => ?_) (fun hc => ?_)) <;> first | (exfalso; omega) | (exfalso; dsimp only at hc; omega) | skip)
          | refine And.intro (a := (_ : Bool) = true ∧ (_ : List _) = [] ∧ (_ : List _) = []) ⟨rfl, rfl, rfl⟩ ?_
          | (with_reducible show FamEv _ _ _ 29 _ _ _); refine FamEv.mk [] (fun β w' _ hbw => h29 w' (by repeat (first | exact hbw | replace hbw := hbw.1))) ?_
          | (with_reducible show FamEv _ _ _ 44 _ _ _); refine FamEv.mk [] (fun β w' _ hbw => h44 w' (by repeat (first | exact hbw | replace hbw := hbw.1))) ?_
          | (with_reducible show FamEv _ _ _ 43 _ _ _); refine FamEv.mk [] (fun β w' _ hbw => h43 y3 y4 w' hbw.1.1.2 hbw.1.2 hbw.2) ?_
          | ((with_reducible show CallEv _ _ 19 _ _ _ _ _); refine callE (k := 19) (fun β w' hbw => awake_ok w') ?_)
        refine ⟨?_, Ent.weak rfl ⟨rfl, trivial⟩ trivial fun w2 h => h.1.1.1.1⟩
        simp only [List.nil_append, List.cons_append, List.append_assoc]
        exact rfl
      case hk1 => intros; rfl
      case hk2 => intros; rfl
      case hk3 => intros; rfl
      case hi1 => exact fun _ _ _ _ => ⟨Or.inr rfl, Or.inr rfl, Or.inl (by kernel_rfl), Or.inr rfl, Or.inr rfl, Or.inl (by kernel_rfl), Or.inl (by kernel_rfl), Or.inl (by kernel_rfl), Or.inl (by kernel_rfl), Or.inl (by kernel_rfl), Or.inl (by kernel_rfl), Or.inl (by kernel_rfl), Or.inl (by kernel_rfl), Or.inl (by kernel_rfl), Or.inl (by kernel_rfl), Or.inl (by kernel_rfl), Or.inl (by kernel_rfl), trivial⟩
      case hi2 => exact fun _ _ _ _ => ⟨Or.inr rfl, Or.inr rfl, Or.inr rfl, Or.inr rfl, Or.inr rfl, Or.inl (by kernel_rfl), Or.inl (by kernel_rfl), Or.inl (by kernel_rfl), Or.inl (by kernel_rfl), Or.inl (by kernel_rfl), Or.inl (by kernel_rfl), Or.inl (by kernel_rfl), Or.inl (by kernel_rfl), Or.inl (by kernel_rfl), Or.inl (by kernel_rfl), Or.inl (by kernel_rfl), Or.inl (by kernel_rfl), trivial⟩
      case hi3 => exact fun _ _ _ _ => ⟨Or.inr rfl, Or.inr rfl, Or.inr rfl, Or.inr rfl, Or.inr rfl, Or.inr rfl, Or.inl (by kernel_rfl), Or.inl (by kernel_rfl), Or.inl (by kernel_rfl), Or.inl (by kernel_rfl), Or.inl (by kernel_rfl), Or.inl (by kernel_rfl), Or.inl (by kernel_rfl), Or.inl (by kernel_rfl), Or.inl (by kernel_rfl), Or.inl (by kernel_rfl), Or.inl (by kernel_rfl), trivial⟩
  · skip
    repeat'
     conv => whnf
     first
      | refine zA ?_ | refine zB ?_ | refine zC ?_ | refine zD ?_ | refine zE ?_ | refine zF ?_ | refine zG ?_ | refine zH ?_ | refine zJ ?_ | refine zI ?_ | refine splT ?_ | refine splF ?_ | refine splNot ?_
      | ((first | refine splIn (fun hc => ?_) (fun hc => ?_) | refine splD (fun hc => ?_) (fun hc => ?_) | refine splE (fun hc => ?_) (fun hc => ?_) | refine splNE (fun hc => ?_) (fun hc => ?_)) <;> first | (exfalso; omega) | (exfalso; dsimp only at hc; omega) | skip)
    all_goals first | (exfalso; omega) | exact ⟨fun β => rfl, fun w' h => h⟩
set_option maxHeartbeats 8000000 in
set_option maxRecDepth 100000 in
theorem RouteNever_ok (x : Tr) (o : Option Addr) (c : Nat) (S : List (Int × Int × Int)) (fo : Option Addr) (fc : Nat) (F : List Int) (b : Int) (bo : Option Addr) (bc : Nat) (R : List Iw) (w : World) (h : TrI0 x w) (hS : SpI0 o c S w) (hF : Rd 1 iF (.slice fo F.length fc) F w) (hFl : F.length ≤ 9223372036854775807) (hR : Rd 1 Iw.cs (.slice bo R.length bc) R w) (hRr : ∀ r ∈ R, Rd 1 iF (.slice r.o r.xs.length r.c) r.xs w) (hRl : R.length ≤ 9223372036854775807) (hRn : ∀ r ∈ R, r.xs.length ≤ 17592186043904) :
    Calls Try.prog 11 #[x.v, .slice o S.length c, .slice fo F.length fc, iv b, .slice bo R.length bc] w fun e w' => e = .returned (.bool true) ∧ Below w.heap.size w w' := by
  have h22 := fun w' hb => Right_ok x w' (h.below hb)
  have htl := h.tl
  have hsl := hS.l
  obtain ⟨tb, htb⟩ : ∃ b, toB x.d = b := ⟨_, rfl⟩
  rw [htb] at h22
  by_cases hg : tb = true ∧ S.length ≤ 25 ∧ F.length ≤ 15 ∧ R.length ≤ 12
  · obtain ⟨rfl, hs, hf, hr⟩ := hg
    have hI := h.b (toB_b htb)
    have hn := toB_n htb
    have h21 := fun w' hb => Tour_ok x w' (hI.below hb) (toB_b htb)
    have hlen : x.d.T.length = x.T.length := List.length_map ..
    have h20 : ∀ (y : Tr) w', TrIn y w' ∧ y.d = x.d → Calls Try.prog 20 #[y.v] w' fun e w2 => ∃ v : Value, e = .returned (.tuple #[v, iv (hmO x.d (ALO x.d) 0 0 0), iv 0]) ∧ Below w'.heap.size w' w2 ∧ St w'.heap.size (fun _ => True) w2 := fun y w' hy => by
      have := Best_ok y w' hy.1
      unfold bsV at this
      rw [hy.2, if_pos htb] at this
      exact this.mono fun e w2 ⟨y2, e1, e2, e3⟩ => ⟨_, e1, e2, fun _ _ => trivial⟩
    have hH : 0 ≤ hmO x.d (ALO x.d) 0 0 0 := hmO_ge x.d (ALO x.d) 0 0 0
    have hp : (pfV x.d S).2 = 0 → (pfV x.d S).1 ≤ hmO x.d (ALO x.d) 0 0 0 := by
      unfold pfV
      rw [if_pos htb]
      split
      · split
        · rename_i h1; intro _; exact pf_le hn (cs00 htb) h1
        · intro h2; cases h2
      · intro h2; cases h2
    have hbb : ((if feB x.T.length F = true then (0 : Int) else 1) = (0 : Int) ∧ hmO x.d (ALO x.d) 0 0 0 ≤ (if feB x.T.length F = true then bdO F (tabO x.d F) else 0)) ∨ (if feB x.T.length F = true then (0 : Int) else 1) = (1 : Int) := by
      by_cases hfe : feB x.T.length F = true
      · refine .inl ⟨if_pos hfe, ?_⟩
        rw [if_pos hfe]
        exact hm_bdO htb (feB_n hfe).2 fun a ha d hd => Int.le_of_eq (tab_fix hn (feB_n hfe).2 a ha d hd)
      · exact .inr (if_neg hfe)
    obtain ⟨pb, hpb⟩ : ∃ v, ((toB x.d && feB x.T.length F) && shO x.d F b (R.map Iw.xs)) = v := ⟨_, rfl⟩
    have hpH : pb = true → hmO x.d (ALO x.d) 0 0 0 ≤ b := fun e => by
      rw [e] at hpb
      simp only [Bool.and_eq_true] at hpb
      exact sh_bd htb (feB_n hpb.1.2).2 hpb.2
    generalize hmO x.d (ALO x.d) 0 0 0 = H at *
    refine calls_valV env mixed Try.func11 has11 Try.ntmps11 [.agg #[iv x.days, iv x.shift, iv x.size, .slice x.to x.T.length x.tc, .slice x.lo x.L.length x.lc], .slice o S.length c, .slice fo F.length fc, iv b, .slice bo R.length bc] (by simp) ?_
    refine VC.cutH env mixed 4 2 (fun y : Tr => [(1, .v (.slice o S.length c)), (2, .v (.slice fo F.length fc)), (3, .v (iv b)), (4, .v (.slice bo R.length bc)), (5, .ptr 0 0), (11, .ptr 1 0), (13, .v (iv H)), (14, .v (iv 0))]) (fun y => [(0, .cells x.l 25), (1, .cells y.l 35)]) (fun y w2 => Below w.heap.size w w2 ∧ (TrIn y w2 ∧ y.d = x.d)) (fun _ => True) (fun _ _ => ⟨rfl, rfl⟩) ?_ (fun y _ => Ne4 x y o c S fo fc F b bo bc R H w hS hs (Ne5 x y o c S fo fc F b bo bc R H w _ _ htb hF hf (Ne6 x y o c S fo fc F b bo bc R H w _ _ _ _ hH hp hbb _ _ _ (Ne7 x y o c S fo fc F b bo bc R H w hF hf hR hRr hr hRn pb hpb hpH _))))
    clear h hI htb hS hF hR hRr hRn hn hp hbb hpb hpH
    obtain ⟨days, shift, size, to, tc, T, lo, lc, L⟩ := x
    dsimp only at htl
    repeat'
     conv => whnf
     first
      | refine zA ?_ | refine zB ?_ | refine zC ?_ | refine zD ?_ | refine zE ?_ | refine zF ?_ | refine zG ?_ | refine zH ?_ | refine zJ ?_ | refine zI ?_ | refine splT ?_ | refine splF ?_ | refine splNot ?_
      | ((first | refine splIn (fun hc => ?_) (fun hc => ?_) | refine splD (fun hc => ?_) (fun hc => ?_) | refine splE (fun hc => ?_) (fun hc => ?_) | refine splNE (fun hc => ?_) (fun hc => ?_)) <;> first | (exfalso; omega) | (exfalso; dsimp only at hc; omega) | skip)
      | ((with_reducible show CallEv _ _ 22 _ _ _ _ _); refine callE (k := 22) (fun β w' hbw => h22 w' (by repeat (first | exact hbw | replace hbw := hbw.1))) ?_)
      | ((with_reducible show CallEv _ _ 21 _ _ _ _ _); refine callF [] (fun y : Tr => y.v) (fun y w2 => TrIn y w2 ∧ y.d = Tr.d ⟨days, shift, size, to, tc, T, lo, lc, L⟩) (fun β w' _ hbw => h21 w' (by repeat (first | exact hbw | replace hbw := hbw.1))) ?_; intro y)
      | ((with_reducible show CallEv _ _ 20 _ _ _ _ _); refine callF [] (fun v : Value => .tuple #[v, iv H, iv 0]) (fun _ _ => True) (fun β w' _ hbw => h20 y w' hbw.2) ?_; intro v)
    all_goals first | (exfalso; omega) | exact ⟨rfl, y, trivial, Ent.weak rfl ⟨rfl, rfl, rfl, rfl, rfl, rfl, rfl, rfl, trivial⟩ ⟨rfl, rfl, trivial⟩ fun w2 h => h.1⟩
  · have hg2 : tb = true → ¬ (S.length ≤ 25 ∧ F.length ≤ 15 ∧ R.length ≤ 12) := fun h1 h2 => hg ⟨h1, h2⟩
    clear h htb hg
    obtain ⟨days, shift, size, to, tc, T, lo, lc, L⟩ := x
    dsimp only at htl
    refine calls_val env mixed Try.func11 has11 Try.ntmps11 [.agg #[iv days, iv shift, iv size, .slice to T.length tc, .slice lo L.length lc], .slice o S.length c, .slice fo F.length fc, iv b, .slice bo R.length bc] (by simp) ?_
    cases tb with
    | false =>
      repeat'
       conv => whnf
       first
        | refine zA ?_ | refine zB ?_ | refine zC ?_ | refine zD ?_ | refine zE ?_ | refine zF ?_ | refine zG ?_ | refine zH ?_ | refine zJ ?_ | refine zI ?_ | refine splT ?_ | refine splF ?_ | refine splNot ?_
        | ((first | refine splIn (fun hc => ?_) (fun hc => ?_) | refine splD (fun hc => ?_) (fun hc => ?_) | refine splE (fun hc => ?_) (fun hc => ?_) | refine splNE (fun hc => ?_) (fun hc => ?_)) <;> first | (exfalso; omega) | (exfalso; dsimp only at hc; omega) | skip)
        | ((with_reducible show CallEv _ _ 22 _ _ _ _ _); refine callE (k := 22) (fun β w' hbw => h22 w' (by repeat (first | exact hbw | replace hbw := hbw.1))) ?_)
        | ((with_reducible show CallEv _ _ 19 _ _ _ _ _); refine callE (k := 19) (fun β w' hbw => awake_ok w') ?_)
      all_goals first | (exfalso; omega) | exact ⟨fun β => rfl, fun w' h => (by repeat (first | exact h | replace h := h.1))⟩
    | true =>
      have hg3 := hg2 rfl
      clear hg2
      repeat'
       conv => whnf
       first
        | refine zA ?_ | refine zB ?_ | refine zC ?_ | refine zD ?_ | refine zE ?_ | refine zF ?_ | refine zG ?_ | refine zH ?_ | refine zJ ?_ | refine zI ?_ | refine splT ?_ | refine splF ?_ | refine splNot ?_
        | ((first | refine splIn (fun hc => ?_) (fun hc => ?_) | refine splD (fun hc => ?_) (fun hc => ?_) | refine splE (fun hc => ?_) (fun hc => ?_) | refine splNE (fun hc => ?_) (fun hc => ?_)) <;> first | (exfalso; omega) | (exfalso; dsimp only at hc; omega) | skip)
        | ((with_reducible show CallEv _ _ 22 _ _ _ _ _); refine callE (k := 22) (fun β w' hbw => h22 w' (by repeat (first | exact hbw | replace hbw := hbw.1))) ?_)
        | ((with_reducible show CallEv _ _ 19 _ _ _ _ _); refine callE (k := 19) (fun β w' hbw => awake_ok w') ?_)
      all_goals first | (exfalso; omega) | exact ⟨fun β => rfl, fun w' h => (by repeat (first | exact h | replace h := h.1))⟩
end Go.Proofs.Ythfabodamhdhaaa
