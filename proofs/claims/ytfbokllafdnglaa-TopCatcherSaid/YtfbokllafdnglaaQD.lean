/- Flights for the program: what Range, Box, Flyer and Flight of the law return. -/
import Derived.Test.YtfbokllafdnglaaQC
namespace Go.Proofs.Ytfbokllafdnglaa
open Go Tx Go.RowKit
set_option linter.unusedSimpArgs false
set_option linter.unusedVariables false

theorem cvRange_ok (a b : Int) (w : World) : Calls Try.prog 77 #[.agg #[iv a, iv b]] w fun e w' => e = .returned (.agg #[iv a, iv b]) ∧ Below w.heap.size w w' := by
  refine calls_val env mixed Try.func77 has77 Try.ntmps77 [.agg #[iv a, iv b]] (by simp) ?_
  repeat'
   conv => whnf
   first
    | refine zA ?_ | refine zB ?_ | refine zC ?_ | refine zD ?_ | refine zE ?_ | refine zF ?_ | refine zG ?_ | refine zH ?_ | refine zJ ?_ | refine zI ?_ | refine splT ?_ | refine splF ?_ | refine splNot ?_
    | ((first | refine splIn (fun hc => ?_) (fun hc => ?_) | refine splD (fun hc => ?_) (fun hc => ?_) | refine splE (fun hc => ?_) (fun hc => ?_) | refine splNE (fun hc => ?_) (fun hc => ?_)) <;> first | (exfalso; omega) | (exfalso; dsimp only at hc; omega) | skip)
  all_goals exact ⟨fun β => rfl, fun w' h => h⟩
theorem cvBox_ok (a b c d : Int) (w : World) : Calls Try.prog 46 #[.agg #[iv a, iv b, iv c, iv d]] w fun e w' => e = .returned (.agg #[iv a, iv b, iv c, iv d]) ∧ Below w.heap.size w w' := by
  refine calls_val env mixed Try.func46 has46 Try.ntmps46 [.agg #[iv a, iv b, iv c, iv d]] (by simp) ?_
  repeat'
   conv => whnf
   first
    | refine zA ?_ | refine zB ?_ | refine zC ?_ | refine zD ?_ | refine zE ?_ | refine zF ?_ | refine zG ?_ | refine zH ?_ | refine zJ ?_ | refine zI ?_ | refine splT ?_ | refine splF ?_ | refine splNot ?_
    | ((first | refine splIn (fun hc => ?_) (fun hc => ?_) | refine splD (fun hc => ?_) (fun hc => ?_) | refine splE (fun hc => ?_) (fun hc => ?_) | refine splNE (fun hc => ?_) (fun hc => ?_)) <;> first | (exfalso; omega) | (exfalso; dsimp only at hc; omega) | skip)
    | ((with_reducible show CallEv _ _ 77 [.agg [.v (iv a), .v (iv b)]] _ _ _ _); refine callE (k := 77) (fun β w' hbw => cvRange_ok a b _) ?_)
    | ((with_reducible show CallEv _ _ 77 [.agg [.v (iv c), .v (iv d)]] _ _ _ _); refine callE (k := 77) (fun β w' hbw => cvRange_ok c d _) ?_)
  all_goals exact ⟨fun β => rfl, fun w' h => h⟩
theorem cvFlyer_ok (p1 p2 p3 p4 s1 s2 s3 s4 m : Int) (w : World) : Calls Try.prog 45 #[.agg #[iv p1, iv p2, iv p3, iv p4, iv s1, iv s2, iv s3, iv s4, iv m]] w fun e w' => e = .returned (.agg #[iv p1, iv p2, iv p3, iv p4, iv s1, iv s2, iv s3, iv s4, iv m]) ∧ Below w.heap.size w w' := by
  refine calls_val env mixed Try.func45 has45 Try.ntmps45 [.agg #[iv p1, iv p2, iv p3, iv p4, iv s1, iv s2, iv s3, iv s4, iv m]] (by simp) ?_
  repeat'
   conv => whnf
   first
    | refine zA ?_ | refine zB ?_ | refine zC ?_ | refine zD ?_ | refine zE ?_ | refine zF ?_ | refine zG ?_ | refine zH ?_ | refine zJ ?_ | refine zI ?_ | refine splT ?_ | refine splF ?_ | refine splNot ?_
    | ((first | refine splIn (fun hc => ?_) (fun hc => ?_) | refine splD (fun hc => ?_) (fun hc => ?_) | refine splE (fun hc => ?_) (fun hc => ?_) | refine splNE (fun hc => ?_) (fun hc => ?_)) <;> first | (exfalso; omega) | (exfalso; dsimp only at hc; omega) | skip)
    | ((with_reducible show CallEv _ _ 46 [.agg [.v (iv p1), .v (iv p2), .v (iv p3), .v (iv p4)]] _ _ _ _); refine callE (k := 46) (fun β w' hbw => cvBox_ok p1 p2 p3 p4 _) ?_)
    | ((with_reducible show CallEv _ _ 46 [.agg [.v (iv s1), .v (iv s2), .v (iv s3), .v (iv s4)]] _ _ _ _); refine callE (k := 46) (fun β w' hbw => cvBox_ok s1 s2 s3 s4 _) ?_)
  all_goals exact ⟨fun β => rfl, fun w' h => h⟩
/-- A flight of the program. -/
abbrev ftV (f : Ft) (y : Option Addr × Nat) : Value := .agg #[iv f.p.a, iv f.p.b, iv f.p.c, iv f.p.d, iv f.s.a, iv f.s.b, iv f.s.c, iv f.s.d, iv f.m, sV f.C.length y, iv f.re, iv f.so, iv f.be, iv f.le, iv f.mo]

set_option maxHeartbeats 4000000 in
set_option maxRecDepth 100000 in
theorem cvFlight_ok (f : Ft) (w : World) (hC : Rd 4 Bx.cs (.slice f.co f.C.length f.cc) f.C w) (hl : f.C.length ≤ 1000000) : Calls Try.prog 16 #[f.v] w fun e w' => ∃ y : Option Addr × Nat, e = .returned (ftV f y) ∧ Below w.heap.size w w' ∧ St w.heap.size (fun w2 => Rd 4 Bx.cs (sV f.C.length y) f.C w2) w' := by
  obtain ⟨⟨p1, p2, p3, p4⟩, ⟨s1, s2, s3, s4⟩, m, co, cc, C, re, so, be, le, mo⟩ := f
  unfold ftV
  dsimp only at hC hl ⊢
  refine calls_fam env mixed Try.func16 has16 Try.ntmps16 [.agg #[iv p1, iv p2, iv p3, iv p4, iv s1, iv s2, iv s3, iv s4, iv m, .slice co C.length cc, iv re, iv so, iv be, iv le, iv mo]] (by simp) ?_
  repeat'
   conv => whnf
   first
    | refine zA ?_ | refine zB ?_ | refine zC ?_ | refine zD ?_ | refine zE ?_ | refine zF ?_ | refine zG ?_ | refine zH ?_ | refine zJ ?_ | refine zI ?_ | refine splT ?_ | refine splF ?_ | refine splNot ?_
    | ((first | refine splIn (fun hc => ?_) (fun hc => ?_) | refine splD (fun hc => ?_) (fun hc => ?_) | refine splE (fun hc => ?_) (fun hc => ?_) | refine splNE (fun hc => ?_) (fun hc => ?_)) <;> first | (exfalso; omega) | (exfalso; dsimp only at hc; omega) | skip)
    | ((with_reducible show CallEv _ _ 45 _ _ _ _ _); refine callE (k := 45) (fun β w' hbw => cvFlyer_ok _ _ _ _ _ _ _ _ _ _) ?_)
  refine loopN 5 (fun k : Nat => [(1, .ptr 0 0), (2, .ptr 1 0), (3, .ptr 2 0), (4, .v (iv k))]) (fun k => (0, .cells [.v (iv p1), .v (iv p2), .v (iv p3), .v (iv p4), .v (iv s1), .v (iv s2), .v (iv s3), .v (iv s4), .v (iv m), .v (.slice co C.length cc), .v (iv re), .v (iv so), .v (iv be), .v (iv le), .v (iv mo)] 66) :: (1, .cells [.v (iv 0), .v (iv 0), .v (iv 0), .v (iv 0), .v (iv 0), .v (iv 0), .v (iv 0), .v (iv 0), .v (iv 0), .v (.slice none 0 0), .v (iv 0), .v (iv 0), .v (iv 0), .v (iv 0), .v (iv 0)] 82) :: (2, .cells [.v (iv p1), .v (iv p2), .v (iv p3), .v (iv p4), .v (iv s1), .v (iv s2), .v (iv s3), .v (iv s4), .v (iv m), oSV 3 4 (C.take k), .v (iv re), .v (iv so), .v (iv be), .v (iv le), .v (iv mo)] 82) :: oM 3 4 4 Bx.cs 75 (C.take k))
    (fun k => k ≤ C.length) (fun k => C.length - k) 0 (Nat.zero_le _) ⟨rfl, rfl, rfl, rfl, trivial⟩ ⟨rfl, rfl, rfl, trivial⟩ (fun k _ => by cases C.take k <;> exact ⟨rfl, rfl⟩) ?_
  intro k hk
  rcases Nat.lt_or_ge k C.length with hkl | hkl
  · obtain ⟨b, hb⟩ : ∃ b, C[k]? = some b := ⟨_, List.getElem?_eq_getElem hkl⟩
    obtain ⟨_, ad, rfl, _⟩ := hC.ptr (by omega)
    have e0 := fun (w' : World) hw' => rd_ati (hC.below (w' := w') hw') hb
    have ht : C.take (k + 1) = C.take k ++ [b] := by rw [List.take_add_one, hb]; rfl
    have hlen : (C.take k).length ≤ k := List.length_take_le _ _
    generalize C.take k = T at *
    obtain ⟨b1, b2, b3, b4⟩ := b
    cases T with
    | nil =>
      repeat'
       conv => whnf
       first
        | refine zA ?_ | refine zB ?_ | refine zC ?_ | refine zD ?_ | refine zE ?_ | refine zF ?_ | refine zG ?_ | refine zH ?_ | refine zJ ?_ | refine zI ?_ | refine splT ?_ | refine splF ?_ | refine splNot ?_
        | ((first | refine splIn (fun hc => ?_) (fun hc => ?_) | refine splD (fun hc => ?_) (fun hc => ?_) | refine splE (fun hc => ?_) (fun hc => ?_) | refine splNE (fun hc => ?_) (fun hc => ?_)) <;> first | (exfalso; omega) | (exfalso; dsimp only at hc; omega) | skip)
        | refine Exists.intro (α := List Value) [iv b1, iv b2, iv b3, iv b4] ⟨⟨rfl, fun w' hw' => e0 w' hw'⟩, ?_⟩
        | ((with_reducible show CallEv _ _ 46 _ _ _ _ _); refine callE (k := 46) (fun β w' hbw => cvBox_ok _ _ _ _ _) ?_)
      all_goals first | (exfalso; omega) | exact ⟨k + 1, by omega, by omega, Ent.ren (rho [(3, 6), (4, 7)]) rfl (by rw [ht]; rfl) ⟨rfl, rfl, rfl, rfl, trivial⟩ (by rw [ht]; exact ⟨rfl, rfl, rfl, rfl, trivial⟩) fun _ h => h⟩
    | cons a T =>
      simp only [List.length_cons] at hlen
      repeat'
       conv => whnf
       first
        | refine zA ?_ | refine zB ?_ | refine zC ?_ | refine zD ?_ | refine zE ?_ | refine zF ?_ | refine zG ?_ | refine zH ?_ | refine zJ ?_ | refine zI ?_ | refine splT ?_ | refine splF ?_ | refine splNot ?_
        | ((first | refine splIn (fun hc => ?_) (fun hc => ?_) | refine splD (fun hc => ?_) (fun hc => ?_) | refine splE (fun hc => ?_) (fun hc => ?_) | refine splNE (fun hc => ?_) (fun hc => ?_)) <;> first | (exfalso; omega) | (exfalso; dsimp only at hc; omega) | skip)
        | refine Exists.intro (α := List Value) [iv b1, iv b2, iv b3, iv b4] ⟨⟨rfl, fun w' hw' => e0 w' hw'⟩, ?_⟩
        | ((with_reducible show CallEv _ _ 46 _ _ _ _ _); refine callE (k := 46) (fun β w' hbw => cvBox_ok _ _ _ _ _) ?_)
      all_goals first | (exfalso; omega) | exact ⟨k + 1, by omega, by omega, Ent.ren (rho [(3, 6), (4, 7)]) rfl (by rw [ht]; rfl) ⟨rfl, rfl, rfl, rfl, trivial⟩ (by rw [ht]; exact ⟨rfl, rfl, by simp [oSV]; rfl, by simp [oM]; rfl, trivial⟩) fun _ h => h⟩
  rw [List.take_of_length_le hkl]
  cases C with
  | nil =>
    repeat'
     conv => whnf
     first
      | refine zA ?_ | refine zB ?_ | refine zC ?_ | refine zD ?_ | refine zE ?_ | refine zF ?_ | refine zG ?_ | refine zH ?_ | refine zJ ?_ | refine zI ?_ | refine splT ?_ | refine splF ?_ | refine splNot ?_
      | ((first | refine splIn (fun hc => ?_) (fun hc => ?_) | refine splD (fun hc => ?_) (fun hc => ?_) | refine splE (fun hc => ?_) (fun hc => ?_) | refine splNE (fun hc => ?_) (fun hc => ?_)) <;> first | (exfalso; omega) | (exfalso; dsimp only at hc; omega) | skip)
    all_goals first | (exfalso; omega) | exact ⟨fun w' h => h, fun β w' hBB hblk => ⟨(none, 0), rfl, (show St _ (Rd 4 Bx.cs (.slice none 0 0) []) _ from fun _ _ => .inl ⟨rfl, rfl⟩)⟩⟩
  | cons l0 LL =>
    repeat'
     conv => whnf
     first
      | refine zA ?_ | refine zB ?_ | refine zC ?_ | refine zD ?_ | refine zE ?_ | refine zF ?_ | refine zG ?_ | refine zH ?_ | refine zJ ?_ | refine zI ?_ | refine splT ?_ | refine splF ?_ | refine splNot ?_
      | ((first | refine splIn (fun hc => ?_) (fun hc => ?_) | refine splD (fun hc => ?_) (fun hc => ?_) | refine splE (fun hc => ?_) (fun hc => ?_) | refine splNE (fun hc => ?_) (fun hc => ?_)) <;> first | (exfalso; omega) | (exfalso; dsimp only at hc; omega) | skip)
    all_goals first | (exfalso; omega) | exact ⟨fun w' h => h, fun β w' hBB hblk => ⟨(some ⟨β 3, 0, none⟩, β 4), rfl, (hblk 3 _ rfl rfl).imp fun _ q => Rd.of_owns (sz := 4) (f := Bx.cs) (bs := l0 :: LL) (fun _ => rfl) rfl rfl q⟩⟩
end Go.Proofs.Ytfbokllafdnglaa
