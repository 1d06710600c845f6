/- The program's valid flights: what valid returns. -/
import Derived.Test.YtfbokllafdnglaaQD
namespace Go.Proofs.Ytfbokllafdnglaa
open Go Tx Go.RowKit
set_option linter.unusedSimpArgs false
set_option linter.unusedVariables false

theorem btB_iff {lo hi n : Int} : btB lo hi n = true ↔ -n ≤ lo ∧ lo ≤ hi ∧ hi ≤ n := by simp [btB, and_assoc]
theorem bxB_iff {x : Bx} {n : Int} : bxB x n = true ↔ (-n ≤ x.a ∧ x.a ≤ x.b ∧ x.b ≤ n) ∧ (-n ≤ x.c ∧ x.c ≤ x.d ∧ x.d ≤ n) := by simp [bxB, btB_iff]
theorem flB_iff {p s : Bx} {m : Int} : flB p s m = true ↔ bxB p 10000000 = true ∧ bxB s 10000 = true ∧ (1 ≤ m ∧ m ≤ 200) := by simp [flB, inB_iff]
theorem ftB_iff {f : Ft} : ftB f = true ↔ (∀ x ∈ f.C, bxB x 10000000 = true) ∧ flB f.p f.s f.m = true ∧ (1 ≤ f.C.length ∧ f.C.length ≤ 600) ∧ (0 ≤ f.re ∧ f.re ≤ 10000000) ∧ (1 ≤ f.so ∧ f.so ≤ 100) ∧ (0 ≤ f.be ∧ f.be ≤ 100000000) ∧ (0 ≤ f.le ∧ f.le ≤ 300) ∧ f.le ≤ f.mo ∧ f.mo ≤ 300 := by
  simp only [ftB, Bool.and_eq_true, List.all_eq_true, decide_eq_true_eq, inB_iff, and_assoc]
theorem wf_ok (n lo hi : Int) (w : World) : Calls Try.prog 48 #[iv n, iv lo, iv hi] w fun e w' => e = .returned (.bool (inB n lo hi)) ∧ Below w.heap.size w w' := by
  refine calls_val env mixed Try.func48 has48 Try.ntmps48 [iv n, iv lo, iv hi] (by simp) ?_
  repeat'
   conv => whnf
   first
    | refine zA ?_ | refine zB ?_ | refine zC ?_ | refine zD ?_ | refine zE ?_ | refine zF ?_ | refine zG ?_ | refine zH ?_ | refine zJ ?_ | refine zI ?_ | refine splT ?_ | refine splF ?_ | refine splNot ?_
    | ((first | refine splIn (fun hc => ?_) (fun hc => ?_) | refine splD (fun hc => ?_) (fun hc => ?_) | refine splE (fun hc => ?_) (fun hc => ?_) | refine splNE (fun hc => ?_) (fun hc => ?_)) <;> first | (exfalso; omega) | (exfalso; dsimp only at hc; omega) | skip)
  all_goals exact ⟨fun β => congrArg Value.bool (by simp [inB, *]), fun w' h => h⟩
theorem rin_t (lo hi n : Int) (w : World) (hn : 0 ≤ n ∧ n ≤ 1000000000) (h : -n ≤ lo ∧ lo ≤ hi ∧ hi ≤ n) : Calls Try.prog 100 #[.agg #[iv lo, iv hi], iv n] w fun e w' => e = .returned (.bool true) ∧ Below w.heap.size w w' := by
  refine calls_val env mixed Try.func100 has100 Try.ntmps100 [.agg #[iv lo, iv hi], iv n] (by simp) ?_
  repeat'
   conv => whnf
   first
    | refine zA ?_ | refine zB ?_ | refine zC ?_ | refine zD ?_ | refine zE ?_ | refine zF ?_ | refine zG ?_ | refine zH ?_ | refine zJ ?_ | refine zI ?_ | refine splT ?_ | refine splF ?_ | refine splNot ?_
    | ((first | refine splIn (fun hc => ?_) (fun hc => ?_) | refine splD (fun hc => ?_) (fun hc => ?_) | refine splE (fun hc => ?_) (fun hc => ?_) | refine splNE (fun hc => ?_) (fun hc => ?_)) <;> first | (exfalso; omega) | (exfalso; dsimp only at hc; omega) | skip)
  all_goals first | (exfalso; omega) | exact ⟨fun β => rfl, fun w' h => h⟩ | exact ⟨fun β => congrArg Value.bool (by simp; omega), fun w' h => h⟩
theorem bin_t (x : Bx) (n : Int) (w : World) (hn : 0 ≤ n ∧ n ≤ 1000000000) (h : bxB x n = true) : Calls Try.prog 81 #[.agg x.cs.toArray, iv n] w fun e w' => e = .returned (.bool true) ∧ Below w.heap.size w w' := by
  obtain ⟨a, b, c, d⟩ := x
  rw [bxB_iff] at h
  dsimp only at h
  refine calls_val env mixed Try.func81 has81 Try.ntmps81 [.agg #[iv a, iv b, iv c, iv d], iv n] (by simp) ?_
  repeat'
   conv => whnf
   first
    | refine zA ?_ | refine zB ?_ | refine zC ?_ | refine zD ?_ | refine zE ?_ | refine zF ?_ | refine zG ?_ | refine zH ?_ | refine zJ ?_ | refine zI ?_ | refine splT ?_ | refine splF ?_ | refine splNot ?_
    | ((first | refine splIn (fun hc => ?_) (fun hc => ?_) | refine splD (fun hc => ?_) (fun hc => ?_) | refine splE (fun hc => ?_) (fun hc => ?_) | refine splNE (fun hc => ?_) (fun hc => ?_)) <;> first | (exfalso; omega) | (exfalso; dsimp only at hc; omega) | skip)
    | ((with_reducible show CallEv _ _ 100 [.agg [.v (iv a), .v (iv b)], .v (iv n)] _ _ _ _); refine callE (k := 100) (fun β w' hbw => rin_t a b n _ hn h.1) ?_)
    | ((with_reducible show CallEv _ _ 100 [.agg [.v (iv c), .v (iv d)], .v (iv n)] _ _ _ _); refine callE (k := 100) (fun β w' hbw => rin_t c d n _ hn h.2) ?_)
  all_goals first | (exfalso; omega) | exact ⟨fun β => rfl, fun w' h => h⟩
theorem flyV_t (p s : Bx) (m : Int) (w : World) (h : flB p s m = true) : Calls Try.prog 78 #[.agg #[iv p.a, iv p.b, iv p.c, iv p.d, iv s.a, iv s.b, iv s.c, iv s.d, iv m]] w fun e w' => e = .returned (.bool true) ∧ Below w.heap.size w w' := by
  obtain ⟨a, b, c, d⟩ := p
  obtain ⟨a', b', c', d'⟩ := s
  dsimp only
  rw [flB_iff] at h
  obtain ⟨h1, h2, h3, h4⟩ := h
  refine calls_val env mixed Try.func78 has78 Try.ntmps78 [.agg #[iv a, iv b, iv c, iv d, iv a', iv b', iv c', iv d', iv m]] (by simp) ?_
  repeat'
   conv => whnf
   first
    | refine zA ?_ | refine zB ?_ | refine zC ?_ | refine zD ?_ | refine zE ?_ | refine zF ?_ | refine zG ?_ | refine zH ?_ | refine zJ ?_ | refine zI ?_ | refine splT ?_ | refine splF ?_ | refine splNot ?_
    | ((first | refine splIn (fun hc => ?_) (fun hc => ?_) | refine splD (fun hc => ?_) (fun hc => ?_) | refine splE (fun hc => ?_) (fun hc => ?_) | refine splNE (fun hc => ?_) (fun hc => ?_)) <;> first | (exfalso; omega) | (exfalso; dsimp only at hc; omega) | skip)
    | ((with_reducible show CallEv _ _ 81 [.agg [.v (iv a), .v (iv b), .v (iv c), .v (iv d)], .v (iv 10000000)] _ _ _ _); refine callE (k := 81) (fun β w' hbw => bin_t ⟨a, b, c, d⟩ 10000000 _ (by omega) h1) ?_)
    | ((with_reducible show CallEv _ _ 81 [.agg [.v (iv a'), .v (iv b'), .v (iv c'), .v (iv d')], .v (iv 10000)] _ _ _ _); refine callE (k := 81) (fun β w' hbw => bin_t ⟨a', b', c', d'⟩ 10000 _ (by omega) h2) ?_)
    | ((with_reducible show CallEv _ _ 48 _ _ _ _ _); refine callE (k := 48) (fun β w' hbw => wf_ok _ _ _ _) ?_)
  all_goals first | (exfalso; omega) | exact ⟨fun β => rfl, fun w' h => h⟩ | exact ⟨fun β => congrArg Value.bool (by rw [inB_iff]; omega), fun w' h => h⟩
set_option maxRecDepth 100000 in
theorem allBx_t (L : List Bx) (o : Option Addr) (c : Nat) (w : World) (hrd : Rd 4 Bx.cs (.slice o L.length c) L w) (hl : L.length ≤ 1000000) (h : ∀ x ∈ L, bxB x 10000000 = true) :
    Calls Try.prog 79 #[.slice o L.length c, .func (.func 80) #[] #[]] w fun e w' => e = .returned (.bool true) ∧ Below w.heap.size w w' := by
  refine calls_val env mixed Try.func79 has79 Try.ntmps79 [.slice o L.length c, .func (.func 80) #[] #[]] (by simp) ?_
  repeat'
   conv => whnf
   first
    | refine zA ?_ | refine zB ?_ | refine zC ?_ | refine zD ?_ | refine zE ?_ | refine zF ?_ | refine zG ?_ | refine zH ?_ | refine zJ ?_ | refine zI ?_ | refine splT ?_ | refine splF ?_ | refine splNot ?_
    | ((first | refine splIn (fun hc => ?_) (fun hc => ?_) | refine splD (fun hc => ?_) (fun hc => ?_) | refine splE (fun hc => ?_) (fun hc => ?_) | refine splNE (fun hc => ?_) (fun hc => ?_)) <;> first | (exfalso; omega) | (exfalso; dsimp only at hc; omega) | skip)
    | ((with_reducible show CallEv _ _ 98 _ _ _ _ _); refine callI env mixed 1000 [] Try.func98 has98 Try.ntmps98 (Nat.le_of_ble_eq_true rfl) rfl rfl rfl ?_)
    | ((with_reducible show CallEv _ _ 108 _ _ _ _ _); refine callI env mixed 2000 [] Try.func108 has108 Try.ntmps108 (Nat.le_of_ble_eq_true rfl) rfl rfl rfl ?_)
  refine loopE (fun k : Nat => [(0, .v (.slice o L.length c)), (1, .fn (.func 99) [.ptr 0 0]), (7, .v (iv L.length)), (8, .v (iv k))]) (fun _ => [(0, .cells [.v (.func (.func 80) #[] #[])] 171)]) (fun k => k ≤ L.length) (fun k => L.length - k) 0 (Nat.zero_le _) ⟨rfl, rfl, rfl, rfl, trivial⟩ ⟨rfl, trivial⟩ (fun _ => ⟨rfl, rfl⟩) ?_
  intro k hk
  rcases Nat.lt_or_ge k L.length with hkl | hkl
  · obtain ⟨⟨x, y, dn, so⟩, hb⟩ : ∃ b, L[k]? = some b := ⟨_, List.getElem?_eq_getElem hkl⟩
    obtain ⟨_, ad, rfl, _⟩ := hrd.ptr (by omega)
    have e0 := fun (w' : World) hw' => rd_ati (hrd.below (w' := w') hw') hb
    have hv := fun w' => bin_t ⟨x, y, dn, so⟩ 10000000 w' (by omega) (h _ (List.mem_of_getElem? hb))
    repeat'
     conv => whnf
     first
      | refine zA ?_ | refine zB ?_ | refine zC ?_ | refine zD ?_ | refine zE ?_ | refine zF ?_ | refine zG ?_ | refine zH ?_ | refine zJ ?_ | refine zI ?_ | refine splT ?_ | refine splF ?_ | refine splNot ?_
      | ((first | refine splIn (fun hc => ?_) (fun hc => ?_) | refine splD (fun hc => ?_) (fun hc => ?_) | refine splE (fun hc => ?_) (fun hc => ?_) | refine splNE (fun hc => ?_) (fun hc => ?_)) <;> first | (exfalso; omega) | (exfalso; dsimp only at hc; omega) | skip)
      | refine Exists.intro (α := List Value) [iv x, iv y, iv dn, iv so] ⟨⟨rfl, fun w' hw' => e0 w' hw'⟩, ?_⟩
      | ((with_reducible show CallEv _ _ 99 _ _ _ _ _); refine callI env mixed 3000 [0,1,5,7,8] Try.func99 has99 Try.ntmps99 (Nat.le_of_ble_eq_true rfl) rfl rfl rfl ?_)
      | ((with_reducible show CallEv _ _ 80 _ _ _ _ _); refine callI env mixed 4000 [] Try.func80 has80 Try.ntmps80 (Nat.le_of_ble_eq_true rfl) rfl rfl rfl ?_)
      | ((with_reducible show CallEv _ _ 81 _ _ _ _ _); refine callE (k := 81) (fun β w' hbw => hv _) ?_)
    all_goals first | (exfalso; omega) | exact ⟨k + 1, by omega, by omega, Ent.weak rfl ⟨rfl, rfl, rfl, rfl, trivial⟩ ⟨rfl, trivial⟩ fun _ h => h⟩
  · skip
    repeat'
     conv => whnf
     first
      | refine zA ?_ | refine zB ?_ | refine zC ?_ | refine zD ?_ | refine zE ?_ | refine zF ?_ | refine zG ?_ | refine zH ?_ | refine zJ ?_ | refine zI ?_ | refine splT ?_ | refine splF ?_ | refine splNot ?_
      | ((first | refine splIn (fun hc => ?_) (fun hc => ?_) | refine splD (fun hc => ?_) (fun hc => ?_) | refine splE (fun hc => ?_) (fun hc => ?_) | refine splNE (fun hc => ?_) (fun hc => ?_)) <;> first | (exfalso; omega) | (exfalso; dsimp only at hc; omega) | skip)
    all_goals first | exact ⟨fun β => rfl, fun w' h => h⟩ | (exfalso; omega)
set_option maxHeartbeats 4000000 in
set_option maxRecDepth 100000 in
theorem ftV_t (f : Ft) (y : Option Addr × Nat) (w : World) (hC : Rd 4 Bx.cs (sV f.C.length y) f.C w) (h : ftB f = true) : Calls Try.prog 47 #[ftV f y] w fun e w' => e = .returned (.bool true) ∧ Below w.heap.size w w' := by
  rw [ftB_iff] at h
  obtain ⟨⟨p1, p2, p3, p4⟩, ⟨s1, s2, s3, s4⟩, m, co, cc, C, re, so, be, le, mo⟩ := f
  obtain ⟨y1, y2⟩ := y
  dsimp only at hC h ⊢
  obtain ⟨g1, g2, g3, g4, g5, g6, g7, g8⟩ := h
  have c78 := fun w' => flyV_t ⟨p1, p2, p3, p4⟩ ⟨s1, s2, s3, s4⟩ m w' g2
  have c79 := fun (w' : World) (hb : Below w.heap.size w w') => allBx_t C y1 y2 w' (hC.below hb) (by omega) g1
  refine calls_val env mixed Try.func47 has47 Try.ntmps47 [.agg #[iv p1, iv p2, iv p3, iv p4, iv s1, iv s2, iv s3, iv s4, iv m, .slice y1 C.length y2, iv re, iv so, iv be, iv le, iv mo]] (by simp) ?_
  repeat'
   conv => whnf
   first
    | refine zA ?_ | refine zB ?_ | refine zC ?_ | refine zD ?_ | refine zE ?_ | refine zF ?_ | refine zG ?_ | refine zH ?_ | refine zJ ?_ | refine zI ?_ | refine splT ?_ | refine splF ?_ | refine splNot ?_
    | ((first | refine splIn (fun hc => ?_) (fun hc => ?_) | refine splD (fun hc => ?_) (fun hc => ?_) | refine splE (fun hc => ?_) (fun hc => ?_) | refine splNE (fun hc => ?_) (fun hc => ?_)) <;> first | (exfalso; omega) | (exfalso; dsimp only at hc; omega) | skip)
    | ((with_reducible show CallEv _ _ 78 _ _ _ _ _); refine callE (k := 78) (fun β w' hbw => c78 _) ?_)
    | ((with_reducible show CallEv _ _ 48 _ _ _ _ _); refine callE (k := 48) (fun β w' hbw => wf_ok _ _ _ _) ?_)
    | ((with_reducible show CallEv _ _ 79 _ _ _ _ _); refine callE (k := 79) (fun β w' hbw => c79 _ hbw) ?_)
  all_goals first | (exfalso; omega) | exact ⟨fun β => rfl, fun w' h => h⟩ | exact ⟨fun β => congrArg Value.bool (by rw [inB_iff]; omega), fun w' h => h⟩
end Go.Proofs.Ytfbokllafdnglaa
