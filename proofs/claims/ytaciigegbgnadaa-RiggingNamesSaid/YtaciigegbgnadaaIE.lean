/- Rigs of the reference said in the program's types: what list, place and Rig return. -/
import Derived.Test.YtaciigegbgnadaaGY
import Derived.Test.YtaciigegbgnadaaPo
import Derived.Maps.AppendAt
namespace Go.Proofs.Ytaciigegbgnadaa
open Go Tx Go.RowKit
set_option linter.unusedSimpArgs false
set_option linter.unusedVariables false

theorem place_ok (b a : Int) (w : World) : Calls Try.prog 50 #[.agg #[iv b, iv a]] w fun e w' => e = .returned (.agg #[iv b, iv a]) ∧ Below w.heap.size w w' := by
  refine calls_val env mixed Try.func50 has50 Try.ntmps50 [.agg #[iv b, iv a]] (by simp) ?_
  repeat'
   conv => whnf
   first
    | refine zA ?_ | refine zB ?_ | refine zC ?_ | refine zD ?_ | refine zE ?_ | refine zF ?_ | refine zG ?_ | refine zH ?_ | refine zI ?_ | refine splT ?_ | refine splF ?_ | refine splNot ?_
    | ((first | refine splIn (fun hc => ?_) (fun hc => ?_) | refine splD (fun hc => ?_) (fun hc => ?_) | refine splE (fun hc => ?_) (fun hc => ?_) | refine splNE (fun hc => ?_) (fun hc => ?_)) <;> first | (exfalso; omega) | (exfalso; dsimp only at hc; omega) | skip)
  all_goals exact ⟨fun β => rfl, fun w' h => h⟩
theorem list_nil (c : Nat) (w : World) : Calls Try.prog 31 #[.slice none 0 0] w fun e w' => e = .returned (.slice none 0 0) ∧ Below w.heap.size w w' := by
  refine calls_val env mixed Try.func31 has31 Try.ntmps31 [.slice none 0 0] (by simp) ?_
  repeat'
   conv => whnf
   first
    | refine zA ?_ | refine zB ?_ | refine zC ?_ | refine zD ?_ | refine zE ?_ | refine zF ?_ | refine zG ?_ | refine zH ?_ | refine zI ?_ | refine splT ?_ | refine splF ?_ | refine splNot ?_
    | ((first | refine splIn (fun hc => ?_) (fun hc => ?_) | refine splD (fun hc => ?_) (fun hc => ?_) | refine splE (fun hc => ?_) (fun hc => ?_) | refine splNE (fun hc => ?_) (fun hc => ?_)) <;> first | (exfalso; omega) | (exfalso; dsimp only at hc; omega) | skip)
  all_goals exact ⟨fun β => rfl, fun w' h => h⟩
set_option maxRecDepth 100000 in
theorem list_own (A : List Int) (o : Option Addr) (c : Nat) (w : World) (hrd : Rd 1 iF (.slice o A.length c) A w) (h0 : A ≠ []) (hl : A.length ≤ 1000000) :
    Calls Try.prog 31 #[.slice o A.length c] w fun e w' => ∃ b d, e = .returned (.slice (some ⟨b, 0, none⟩) A.length d) ∧ w.heap.size ≤ b ∧ Below w.heap.size w w' ∧ w'.ownsRow 0 3 1 (.slice (some ⟨b, 0, none⟩) A.length d) A.length (A.flatMap iF) := by
  refine calls_fam2 env mixed Try.func31 has31 Try.ntmps31 [.slice o A.length c] (by simp) ?_
  have hp : 1 ≤ A.length := by cases A with | nil => exact absurd rfl h0 | cons a A => simp
  obtain ⟨_, ad, rfl, _⟩ := hrd.ptr hp
  have he := fun (w' : World) (hb : Below w.heap.size w w') => Rd.ext (f := iF) (sz := 1) (fun _ => rfl) (hrd.below hb)
  have hln : (A.flatMap iF).length = A.length * 1 := by rw [lenF, Nat.mul_one]
  have hon := one1 A
  generalize A.flatMap iF = X at *
  generalize A.length = n at *
  repeat'
   conv => whnf
   first
    | refine zA ?_ | refine zB ?_ | refine zC ?_ | refine zD ?_ | refine zE ?_ | refine zF ?_ | refine zG ?_ | refine zH ?_ | refine zI ?_ | refine splT ?_ | refine splF ?_ | refine splNot ?_
    | ((first | refine splIn (fun hc => ?_) (fun hc => ?_) | refine splD (fun hc => ?_) (fun hc => ?_) | refine splE (fun hc => ?_) (fun hc => ?_) | refine splNE (fun hc => ?_) (fun hc => ?_)) <;> first | (exfalso; omega) | (exfalso; dsimp only at hc; omega) | skip)
    | refine Exists.intro (α := List Value) X ⟨⟨hln, fun w' hw' => he w' hw', hon⟩, ?_⟩
  have hz : 0 + n = n := Nat.zero_add n
  exact ⟨fun w' h => h, fun β w' hB hB2 hblk => ⟨β 0, β 1, congrArg (fun z => Ending.returned (.slice (some ⟨β 0, 0, none⟩) z (β 1))) hz, (hblk 0 _ rfl rfl).1, hB2, by have := (hblk 0 _ rfl rfl).2; simp only [Blk.ok, List.nil_append, hz] at this; exact this⟩⟩
set_option maxRecDepth 100000 in
theorem list_ext (ad : Addr) (c : Nat) (w : World) : Calls Try.prog 31 #[.slice (some ad) 0 c] w fun e w' => e = .returned (.slice none 0 0) ∧ Below w.heap.size w w' := by
  refine callsIn_wide.1 (?_ : CallsIn Fence.wide 5 Try.prog 31 _ w _)
  refine callsIn_of_wp_marks Try.func31 rfl trivial ?_ rfl
  simp only [Try.ntmps31, List.size_toArray, List.length_cons, List.length_nil, Nat.reduceAdd, Nat.reduceSub, Array.replicate_succ, Array.replicate_zero, List.push_toArray, List.append_toArray, List.nil_append, List.cons_append]
  gi_wp2
  have h0 : Try.f31.results = #[.tmp 2] := by kernel_rfl
  exact ⟨_, by simp only [results, h0]; simp [Sem.run_bind, Sem.run_map, Sem.run_pure], rfl, Below.refl _ w⟩
/-- A list without numbers, copied: nil. -/
theorem list_none (o : Option Addr) (c : Nat) (w : World) (h : Rd 1 iF (.slice o 0 c) [] w) : Calls Try.prog 31 #[.slice o 0 c] w fun e w' => e = .returned (.slice none 0 0) ∧ Below w.heap.size w w' := by
  rcases h with ⟨h, _⟩ | ⟨ad, d, h, _⟩
  · rw [h]; exact list_nil 0 w
  · rw [h]; exact list_ext ad d w
theorem list_fam (A : List Int) (o : Option Addr) (c : Nat) (w : World) (hrd : Rd 1 iF (.slice o A.length c) A w) (hl : A.length ≤ 1000000) :
    Calls Try.prog 31 #[.slice o A.length c] w fun e w' => ∃ y : Option Addr × Nat, e = .returned (sV A.length y) ∧ Below w.heap.size w w' ∧ St w.heap.size (Rd 1 iF (sV A.length y) A) w' := by
  cases A with
  | nil =>
    exact (list_none o c w hrd).mono fun e w' ⟨h1, h2⟩ => ⟨(none, 0), h1, h2, fun _ _ => .inl ⟨rfl, rfl⟩⟩
  | cons a A =>
    exact (list_own (a :: A) o c w hrd (by simp) hl).mono fun e w' ⟨b, d, h1, h2, h3, h4⟩ => ⟨(some ⟨b, 0, none⟩, d), h1, h3, own_st (f := iF) (fun _ => rfl) h2 rfl h4⟩

set_option maxHeartbeats 8000000 in
set_option maxRecDepth 100000 in
theorem Rig_ok (r : Rig) (PP : List Int) (BB : List Bm) (LL : List Ld) (w : World) (h : RigIn r PP BB LL w) (hbm : BB.length ≤ 1000) (hlm : LL.length ≤ 1000) :
    Calls Try.prog 30 #[r.v] w fun e w' => ∃ y : (Option Addr × Nat) × (Option Addr × Nat) × (Option Addr × Nat), e = .returned (.agg #[sV PP.length y.1, sV BB.length y.2.1, iv r.f0, iv r.f1, iv r.f2, sV LL.length y.2.2]) ∧ Below w.heap.size w w' ∧
      St w.heap.size (fun w2 => Rd 1 iF (sV PP.length y.1) PP w2 ∧ Rd 8 Bm.cs (sV BB.length y.2.1) BB w2 ∧ Rd 5 Ld.cs (sV LL.length y.2.2) LL w2) w' := by
  obtain ⟨po, pn, pc, bo, bn, bc, f0, f1, f2, lo, ln, lc⟩ := r
  obtain ⟨hP, hB, hL, rfl, rfl, rfl, l1, l2, l3⟩ := h
  dsimp only at hP hB hL l1 l2 l3 ⊢
  refine calls_fam env mixed Try.func30 has30 Try.ntmps30 [.agg #[.slice po PP.length pc, .slice bo BB.length bc, iv f0, iv f1, iv f2, .slice lo LL.length lc]] (by simp) ?_
  have box : True := trivial
  cases PP with
  | nil =>
    have hlo := fun (w' : World) (hb : Below w.heap.size w w') => list_none po pc w' (hP.below hb)
    repeat'
     conv => whnf
     first
      | refine zA ?_ | refine zB ?_ | refine zC ?_ | refine zD ?_ | refine zE ?_ | refine zF ?_ | refine zG ?_ | refine zH ?_ | refine zI ?_ | refine splT ?_ | refine splF ?_ | refine splNot ?_
      | ((first | refine splIn (fun hc => ?_) (fun hc => ?_) | refine splD (fun hc => ?_) (fun hc => ?_) | refine splE (fun hc => ?_) (fun hc => ?_) | refine splNE (fun hc => ?_) (fun hc => ?_)) <;> first | (exfalso; omega) | (exfalso; dsimp only at hc; omega) | skip)
      | ((with_reducible show CallEv _ _ 31 _ _ _ _ _); refine callE (k := 31) (fun β w' hbw => hlo _ hbw) ?_)
    refine loopN 5 (fun k : Nat => [(1, .ptr 0 0), (2, .ptr 1 0), (3, .ptr 2 0), (4, .v (iv k))]) (fun k => (0, .cells [.v (.slice po ([] : List Int).length pc), .v (.slice bo BB.length bc), .v (iv f0), .v (iv f1), .v (iv f2), .v (.slice lo LL.length lc)] 48) :: (1, .cells [.v (.slice none 0 0), .v (.slice none 0 0), .v (iv 0), .v (iv 0), .v (iv 0), .v (.slice none 0 0)] 58) :: (2, .cells [.v (.slice none 0 0), oSV 3 4 (BB.take k), .v (iv f0), .v (iv f1), .v (iv f2), .v (.slice none 0 0)] 58) :: oM 3 4 8 Bm.cs 107 (BB.take k))
      (fun k => k ≤ BB.length) (fun k => BB.length - k) 0 (Nat.zero_le _) ⟨rfl, rfl, rfl, rfl, trivial⟩ ⟨rfl, rfl, rfl, trivial⟩ (fun k _ => by cases BB.take k <;> exact ⟨rfl, rfl⟩) ?_
    intro k hk
    rcases Nat.lt_or_ge k BB.length with hkl | hkl
    · obtain ⟨b, hb⟩ : ∃ b, BB[k]? = some b := ⟨_, List.getElem?_eq_getElem hkl⟩
      obtain ⟨_, ad, rfl, _⟩ := hB.ptr (by omega)
      have e0 := fun (w' : World) hw' => rd_ati (hB.below (w' := w') hw') hb
      have ht : BB.take (k + 1) = BB.take k ++ [b] := by rw [List.take_add_one, hb]; rfl
      have hlen : (BB.take k).length ≤ k := List.length_take_le _ _
      generalize BB.take k = T at *
      obtain ⟨b1, b2, b3, b4, b5, b6, b7, b8⟩ := b
      cases T with
      | nil =>
        repeat'
         conv => whnf
         first
          | refine zA ?_ | refine zB ?_ | refine zC ?_ | refine zD ?_ | refine zE ?_ | refine zF ?_ | refine zG ?_ | refine zH ?_ | refine zI ?_ | refine splT ?_ | refine splF ?_ | refine splNot ?_
          | ((first | refine splIn (fun hc => ?_) (fun hc => ?_) | refine splD (fun hc => ?_) (fun hc => ?_) | refine splE (fun hc => ?_) (fun hc => ?_) | refine splNE (fun hc => ?_) (fun hc => ?_)) <;> first | (exfalso; omega) | (exfalso; dsimp only at hc; omega) | skip)
          | refine Exists.intro (α := List Value) [iv b1, iv b2, iv b3, iv b4, iv b5, iv b6, iv b7, iv b8] ⟨⟨rfl, fun w' hw' => e0 w' hw'⟩, ?_⟩
          | ((with_reducible show CallEv _ _ 50 _ _ _ _ _); refine callE (k := 50) (fun β w' hbw => place_ok _ _ _) ?_)
        all_goals first | (exfalso; omega) | exact ⟨k + 1, by omega, by omega, Ent.ren (rho [(3, 7), (4, 8)]) rfl (by rw [ht]; rfl) ⟨rfl, rfl, rfl, rfl, trivial⟩ (by rw [ht]; exact ⟨rfl, rfl, rfl, rfl, trivial⟩) fun _ h => h⟩
      | cons a T =>
        simp only [List.length_cons] at hlen
        repeat'
         conv => whnf
         first
          | refine zA ?_ | refine zB ?_ | refine zC ?_ | refine zD ?_ | refine zE ?_ | refine zF ?_ | refine zG ?_ | refine zH ?_ | refine zI ?_ | refine splT ?_ | refine splF ?_ | refine splNot ?_
          | ((first | refine splIn (fun hc => ?_) (fun hc => ?_) | refine splD (fun hc => ?_) (fun hc => ?_) | refine splE (fun hc => ?_) (fun hc => ?_) | refine splNE (fun hc => ?_) (fun hc => ?_)) <;> first | (exfalso; omega) | (exfalso; dsimp only at hc; omega) | skip)
          | refine Exists.intro (α := List Value) [iv b1, iv b2, iv b3, iv b4, iv b5, iv b6, iv b7, iv b8] ⟨⟨rfl, fun w' hw' => e0 w' hw'⟩, ?_⟩
          | ((with_reducible show CallEv _ _ 50 _ _ _ _ _); refine callE (k := 50) (fun β w' hbw => place_ok _ _ _) ?_)
        all_goals first | (exfalso; omega) | exact ⟨k + 1, by omega, by omega, Ent.ren (rho [(3, 7), (4, 8)]) rfl (by rw [ht]; rfl) ⟨rfl, rfl, rfl, rfl, trivial⟩ (by rw [ht]; exact ⟨rfl, rfl, by simp [oSV]; rfl, by simp [oM]; rfl, trivial⟩) fun _ h => h⟩
    rw [List.take_of_length_le hkl]
    cases BB with
    | nil =>
      repeat'
       conv => whnf
       first
        | refine zA ?_ | refine zB ?_ | refine zC ?_ | refine zD ?_ | refine zE ?_ | refine zF ?_ | refine zG ?_ | refine zH ?_ | refine zI ?_ | refine splT ?_ | refine splF ?_ | refine splNot ?_
        | ((first | refine splIn (fun hc => ?_) (fun hc => ?_) | refine splD (fun hc => ?_) (fun hc => ?_) | refine splE (fun hc => ?_) (fun hc => ?_) | refine splNE (fun hc => ?_) (fun hc => ?_)) <;> first | (exfalso; omega) | (exfalso; dsimp only at hc; omega) | skip)
      all_goals first | (exfalso; omega) | skip
      refine loopN 7 (fun k : Nat => [(1, .ptr 0 0), (2, .ptr 1 0), (3, .ptr 2 0), (6, .v (iv k))]) (fun k => (0, .cells [.v (.slice po ([] : List Int).length pc), .v (.slice bo ([] : List Bm).length bc), .v (iv f0), .v (iv f1), .v (iv f2), .v (.slice lo LL.length lc)] 48) :: (1, .cells [.v (.slice none 0 0), .v (.slice none 0 0), .v (iv 0), .v (iv 0), .v (iv 0), .v (.slice none 0 0)] 58) :: (2, .cells [.v (.slice none 0 0), .v (.slice none 0 0), .v (iv f0), .v (iv f1), .v (iv f2), oSV 5 6 (LL.take k)] 58) :: oM 5 6 5 Ld.cs 69 (LL.take k))
        (fun k => k ≤ LL.length) (fun k => LL.length - k) 0 (Nat.zero_le _) ⟨rfl, rfl, rfl, rfl, trivial⟩ ⟨rfl, rfl, rfl, trivial⟩ (fun k _ => by cases LL.take k <;> exact ⟨rfl, rfl⟩) ?_
      clear hk hkl
      intro k hk
      rcases Nat.lt_or_ge k LL.length with hkl | hkl
      · obtain ⟨l, hb⟩ : ∃ b, LL[k]? = some b := ⟨_, List.getElem?_eq_getElem hkl⟩
        obtain ⟨_, ad, rfl, _⟩ := hL.ptr (by omega)
        have e0 := fun (w' : World) hw' => rd_ati (hL.below (w' := w') hw') hb
        have ht : LL.take (k + 1) = LL.take k ++ [l] := by rw [List.take_add_one, hb]; rfl
        have hlen : (LL.take k).length ≤ k := List.length_take_le _ _
        generalize LL.take k = T at *
        obtain ⟨b1, b2, b3, b4, b5⟩ := l
        cases T with
        | nil =>
          repeat'
           conv => whnf
           first
            | refine zA ?_ | refine zB ?_ | refine zC ?_ | refine zD ?_ | refine zE ?_ | refine zF ?_ | refine zG ?_ | refine zH ?_ | refine zI ?_ | refine splT ?_ | refine splF ?_ | refine splNot ?_
            | ((first | refine splIn (fun hc => ?_) (fun hc => ?_) | refine splD (fun hc => ?_) (fun hc => ?_) | refine splE (fun hc => ?_) (fun hc => ?_) | refine splNE (fun hc => ?_) (fun hc => ?_)) <;> first | (exfalso; omega) | (exfalso; dsimp only at hc; omega) | skip)
            | refine Exists.intro (α := List Value) [iv b1, iv b2, .int .u8 b3, iv b4, iv b5] ⟨⟨rfl, fun w' hw' => e0 w' hw'⟩, ?_⟩
            | ((with_reducible show CallEv _ _ 50 _ _ _ _ _); refine callE (k := 50) (fun β w' hbw => place_ok _ _ _) ?_)
          all_goals first | (exfalso; omega) | exact ⟨k + 1, by omega, by omega, Ent.ren (rho [(5, 9), (6, 10)]) rfl (by rw [ht]; rfl) ⟨rfl, rfl, rfl, rfl, trivial⟩ (by rw [ht]; exact ⟨rfl, rfl, rfl, rfl, trivial⟩) fun _ h => h⟩
        | cons a T =>
          simp only [List.length_cons] at hlen
          repeat'
           conv => whnf
           first
            | refine zA ?_ | refine zB ?_ | refine zC ?_ | refine zD ?_ | refine zE ?_ | refine zF ?_ | refine zG ?_ | refine zH ?_ | refine zI ?_ | refine splT ?_ | refine splF ?_ | refine splNot ?_
            | ((first | refine splIn (fun hc => ?_) (fun hc => ?_) | refine splD (fun hc => ?_) (fun hc => ?_) | refine splE (fun hc => ?_) (fun hc => ?_) | refine splNE (fun hc => ?_) (fun hc => ?_)) <;> first | (exfalso; omega) | (exfalso; dsimp only at hc; omega) | skip)
            | refine Exists.intro (α := List Value) [iv b1, iv b2, .int .u8 b3, iv b4, iv b5] ⟨⟨rfl, fun w' hw' => e0 w' hw'⟩, ?_⟩
            | ((with_reducible show CallEv _ _ 50 _ _ _ _ _); refine callE (k := 50) (fun β w' hbw => place_ok _ _ _) ?_)
          all_goals first | (exfalso; omega) | exact ⟨k + 1, by omega, by omega, Ent.ren (rho [(5, 9), (6, 10)]) rfl (by rw [ht]; rfl) ⟨rfl, rfl, rfl, rfl, trivial⟩ (by rw [ht]; exact ⟨rfl, rfl, by simp [oSV]; rfl, by simp [oM]; rfl, trivial⟩) fun _ h => h⟩
      rw [List.take_of_length_le hkl]
      cases LL with
      | nil =>
        repeat'
         conv => whnf
         first
          | refine zA ?_ | refine zB ?_ | refine zC ?_ | refine zD ?_ | refine zE ?_ | refine zF ?_ | refine zG ?_ | refine zH ?_ | refine zI ?_ | refine splT ?_ | refine splF ?_ | refine splNot ?_
          | ((first | refine splIn (fun hc => ?_) (fun hc => ?_) | refine splD (fun hc => ?_) (fun hc => ?_) | refine splE (fun hc => ?_) (fun hc => ?_) | refine splNE (fun hc => ?_) (fun hc => ?_)) <;> first | (exfalso; omega) | (exfalso; dsimp only at hc; omega) | skip)
        all_goals first | (exfalso; omega) | exact ⟨fun w' h => h, fun β w' hBB hblk => ⟨((none, 0), (none, 0), (none, 0)), rfl, ((show St _ (Rd 1 iF (.slice none 0 0) []) _ from fun _ _ => .inl ⟨rfl, rfl⟩).and ((show St _ (Rd 8 Bm.cs (.slice none 0 0) []) _ from fun _ _ => .inl ⟨rfl, rfl⟩).and (show St _ (Rd 5 Ld.cs (.slice none 0 0) []) _ from fun _ _ => .inl ⟨rfl, rfl⟩))).imp fun w2 q => ⟨q.1, q.2.1, q.2.2⟩⟩⟩
      | cons l0 LL =>
        repeat'
         conv => whnf
         first
          | refine zA ?_ | refine zB ?_ | refine zC ?_ | refine zD ?_ | refine zE ?_ | refine zF ?_ | refine zG ?_ | refine zH ?_ | refine zI ?_ | refine splT ?_ | refine splF ?_ | refine splNot ?_
          | ((first | refine splIn (fun hc => ?_) (fun hc => ?_) | refine splD (fun hc => ?_) (fun hc => ?_) | refine splE (fun hc => ?_) (fun hc => ?_) | refine splNE (fun hc => ?_) (fun hc => ?_)) <;> first | (exfalso; omega) | (exfalso; dsimp only at hc; omega) | skip)
        all_goals first | (exfalso; omega) | exact ⟨fun w' h => h, fun β w' hBB hblk => ⟨((none, 0), (none, 0), (some ⟨β 5, 0, none⟩, β 6)), rfl, ((show St _ (Rd 1 iF (.slice none 0 0) []) _ from fun _ _ => .inl ⟨rfl, rfl⟩).and ((show St _ (Rd 8 Bm.cs (.slice none 0 0) []) _ from fun _ _ => .inl ⟨rfl, rfl⟩).and ((hblk 5 _ rfl rfl).imp fun _ q => Rd.of_owns (sz := 5) (f := Ld.cs) (bs := l0 :: LL) (fun _ => rfl) rfl rfl q))).imp fun w2 q => ⟨q.1, q.2.1, q.2.2⟩⟩⟩
    | cons b0 BB =>
      repeat'
       conv => whnf
       first
        | refine zA ?_ | refine zB ?_ | refine zC ?_ | refine zD ?_ | refine zE ?_ | refine zF ?_ | refine zG ?_ | refine zH ?_ | refine zI ?_ | refine splT ?_ | refine splF ?_ | refine splNot ?_
        | ((first | refine splIn (fun hc => ?_) (fun hc => ?_) | refine splD (fun hc => ?_) (fun hc => ?_) | refine splE (fun hc => ?_) (fun hc => ?_) | refine splNE (fun hc => ?_) (fun hc => ?_)) <;> first | (exfalso; omega) | (exfalso; dsimp only at hc; omega) | skip)
      all_goals first | (exfalso; omega) | skip
      refine loopN 7 (fun k : Nat => [(1, .ptr 0 0), (2, .ptr 1 0), (3, .ptr 2 0), (6, .v (iv k))]) (fun k => (0, .cells [.v (.slice po ([] : List Int).length pc), .v (.slice bo (b0 :: BB).length bc), .v (iv f0), .v (iv f1), .v (iv f2), .v (.slice lo LL.length lc)] 48) :: (1, .cells [.v (.slice none 0 0), .v (.slice none 0 0), .v (iv 0), .v (iv 0), .v (iv 0), .v (.slice none 0 0)] 58) :: (3, .own 4 (BB.length + 1) 8 ((b0 :: BB).flatMap Bm.cs) 107) :: (2, .cells [.v (.slice none 0 0), .os 3 4 (BB.length + 1), .v (iv f0), .v (iv f1), .v (iv f2), oSV 5 6 (LL.take k)] 58) :: oM 5 6 5 Ld.cs 69 (LL.take k))
        (fun k => k ≤ LL.length) (fun k => LL.length - k) 0 (Nat.zero_le _) ⟨rfl, rfl, rfl, rfl, trivial⟩ ⟨rfl, rfl, rfl, rfl, trivial⟩ (fun k _ => by cases LL.take k <;> exact ⟨rfl, rfl⟩) ?_
      clear hk hkl
      intro k hk
      rcases Nat.lt_or_ge k LL.length with hkl | hkl
      · obtain ⟨l, hb⟩ : ∃ b, LL[k]? = some b := ⟨_, List.getElem?_eq_getElem hkl⟩
        obtain ⟨_, ad, rfl, _⟩ := hL.ptr (by omega)
        have e0 := fun (w' : World) hw' => rd_ati (hL.below (w' := w') hw') hb
        have ht : LL.take (k + 1) = LL.take k ++ [l] := by rw [List.take_add_one, hb]; rfl
        have hlen : (LL.take k).length ≤ k := List.length_take_le _ _
        generalize LL.take k = T at *
        obtain ⟨b1, b2, b3, b4, b5⟩ := l
        cases T with
        | nil =>
          repeat'
           conv => whnf
           first
            | refine zA ?_ | refine zB ?_ | refine zC ?_ | refine zD ?_ | refine zE ?_ | refine zF ?_ | refine zG ?_ | refine zH ?_ | refine zI ?_ | refine splT ?_ | refine splF ?_ | refine splNot ?_
            | ((first | refine splIn (fun hc => ?_) (fun hc => ?_) | refine splD (fun hc => ?_) (fun hc => ?_) | refine splE (fun hc => ?_) (fun hc => ?_) | refine splNE (fun hc => ?_) (fun hc => ?_)) <;> first | (exfalso; omega) | (exfalso; dsimp only at hc; omega) | skip)
            | refine Exists.intro (α := List Value) [iv b1, iv b2, .int .u8 b3, iv b4, iv b5] ⟨⟨rfl, fun w' hw' => e0 w' hw'⟩, ?_⟩
            | ((with_reducible show CallEv _ _ 50 _ _ _ _ _); refine callE (k := 50) (fun β w' hbw => place_ok _ _ _) ?_)
          all_goals first | (exfalso; omega) | exact ⟨k + 1, by omega, by omega, Ent.ren (rho [(5, 9), (6, 10)]) rfl (by rw [ht]; rfl) ⟨rfl, rfl, rfl, rfl, trivial⟩ (by rw [ht]; exact ⟨rfl, rfl, rfl, rfl, rfl, trivial⟩) fun _ h => h⟩
        | cons a T =>
          simp only [List.length_cons] at hlen
          repeat'
           conv => whnf
           first
            | refine zA ?_ | refine zB ?_ | refine zC ?_ | refine zD ?_ | refine zE ?_ | refine zF ?_ | refine zG ?_ | refine zH ?_ | refine zI ?_ | refine splT ?_ | refine splF ?_ | refine splNot ?_
            | ((first | refine splIn (fun hc => ?_) (fun hc => ?_) | refine splD (fun hc => ?_) (fun hc => ?_) | refine splE (fun hc => ?_) (fun hc => ?_) | refine splNE (fun hc => ?_) (fun hc => ?_)) <;> first | (exfalso; omega) | (exfalso; dsimp only at hc; omega) | skip)
            | refine Exists.intro (α := List Value) [iv b1, iv b2, .int .u8 b3, iv b4, iv b5] ⟨⟨rfl, fun w' hw' => e0 w' hw'⟩, ?_⟩
            | ((with_reducible show CallEv _ _ 50 _ _ _ _ _); refine callE (k := 50) (fun β w' hbw => place_ok _ _ _) ?_)
          all_goals first | (exfalso; omega) | exact ⟨k + 1, by omega, by omega, Ent.ren (rho [(5, 9), (6, 10)]) rfl (by rw [ht]; rfl) ⟨rfl, rfl, rfl, rfl, trivial⟩ (by rw [ht]; exact ⟨rfl, rfl, rfl, by simp [oSV]; rfl, by simp [oM]; rfl, trivial⟩) fun _ h => h⟩
      rw [List.take_of_length_le hkl]
      cases LL with
      | nil =>
        repeat'
         conv => whnf
         first
          | refine zA ?_ | refine zB ?_ | refine zC ?_ | refine zD ?_ | refine zE ?_ | refine zF ?_ | refine zG ?_ | refine zH ?_ | refine zI ?_ | refine splT ?_ | refine splF ?_ | refine splNot ?_
          | ((first | refine splIn (fun hc => ?_) (fun hc => ?_) | refine splD (fun hc => ?_) (fun hc => ?_) | refine splE (fun hc => ?_) (fun hc => ?_) | refine splNE (fun hc => ?_) (fun hc => ?_)) <;> first | (exfalso; omega) | (exfalso; dsimp only at hc; omega) | skip)
        all_goals first | (exfalso; omega) | exact ⟨fun w' h => h, fun β w' hBB hblk => ⟨((none, 0), (some ⟨β 3, 0, none⟩, β 4), (none, 0)), rfl, ((show St _ (Rd 1 iF (.slice none 0 0) []) _ from fun _ _ => .inl ⟨rfl, rfl⟩).and (((hblk 3 _ rfl rfl).imp fun _ q => Rd.of_owns (sz := 8) (f := Bm.cs) (bs := b0 :: BB) (fun _ => rfl) rfl rfl q).and (show St _ (Rd 5 Ld.cs (.slice none 0 0) []) _ from fun _ _ => .inl ⟨rfl, rfl⟩))).imp fun w2 q => ⟨q.1, q.2.1, q.2.2⟩⟩⟩
      | cons l0 LL =>
        repeat'
         conv => whnf
         first
          | refine zA ?_ | refine zB ?_ | refine zC ?_ | refine zD ?_ | refine zE ?_ | refine zF ?_ | refine zG ?_ | refine zH ?_ | refine zI ?_ | refine splT ?_ | refine splF ?_ | refine splNot ?_
          | ((first | refine splIn (fun hc => ?_) (fun hc => ?_) | refine splD (fun hc => ?_) (fun hc => ?_) | refine splE (fun hc => ?_) (fun hc => ?_) | refine splNE (fun hc => ?_) (fun hc => ?_)) <;> first | (exfalso; omega) | (exfalso; dsimp only at hc; omega) | skip)
        all_goals first | (exfalso; omega) | exact ⟨fun w' h => h, fun β w' hBB hblk => ⟨((none, 0), (some ⟨β 3, 0, none⟩, β 4), (some ⟨β 5, 0, none⟩, β 6)), rfl, ((show St _ (Rd 1 iF (.slice none 0 0) []) _ from fun _ _ => .inl ⟨rfl, rfl⟩).and (((hblk 3 _ rfl rfl).imp fun _ q => Rd.of_owns (sz := 8) (f := Bm.cs) (bs := b0 :: BB) (fun _ => rfl) rfl rfl q).and ((hblk 5 _ rfl rfl).imp fun _ q => Rd.of_owns (sz := 5) (f := Ld.cs) (bs := l0 :: LL) (fun _ => rfl) rfl rfl q))).imp fun w2 q => ⟨q.1, q.2.1, q.2.2⟩⟩⟩
  | cons p0 PP =>
    have hlo := fun (w' : World) (hb : Below w.heap.size w w') => list_own (p0 :: PP) po pc w' (hP.below hb) (by simp) l1
    repeat'
     conv => whnf
     first
      | refine zA ?_ | refine zB ?_ | refine zC ?_ | refine zD ?_ | refine zE ?_ | refine zF ?_ | refine zG ?_ | refine zH ?_ | refine zI ?_ | refine splT ?_ | refine splF ?_ | refine splNot ?_
      | ((first | refine splIn (fun hc => ?_) (fun hc => ?_) | refine splD (fun hc => ?_) (fun hc => ?_) | refine splE (fun hc => ?_) (fun hc => ?_) | refine splNE (fun hc => ?_) (fun hc => ?_)) <;> first | (exfalso; omega) | (exfalso; dsimp only at hc; omega) | skip)
      | ((with_reducible show CallEv _ _ 31 _ _ _ _ _); refine callO 2 [] (.os 2 3 (PP.length + 1)) (PP.length + 1) 1 ((p0 :: PP).flatMap iF) 3 rfl (fun β w' _ hbw => (hlo w' hbw).mono fun _ _ ⟨b, c, h1, h2, h3, h4⟩ => ⟨b, c, h1, h2, h3, h4⟩) ?_)
    refine loopN 7 (fun k : Nat => [(1, .ptr 0 0), (2, .ptr 1 0), (3, .ptr 4 0), (4, .v (iv k))]) (fun k => (0, .cells [.v (.slice po (p0 :: PP).length pc), .v (.slice bo BB.length bc), .v (iv f0), .v (iv f1), .v (iv f2), .v (.slice lo LL.length lc)] 48) :: (1, .cells [.v (.slice none 0 0), .v (.slice none 0 0), .v (iv 0), .v (iv 0), .v (iv 0), .v (.slice none 0 0)] 58) :: (2, .own 3 (PP.length + 1) 1 ((p0 :: PP).flatMap iF) 3) :: (4, .cells [.os 2 3 (PP.length + 1), oSV 5 6 (BB.take k), .v (iv f0), .v (iv f1), .v (iv f2), .v (.slice none 0 0)] 58) :: oM 5 6 8 Bm.cs 107 (BB.take k))
      (fun k => k ≤ BB.length) (fun k => BB.length - k) 0 (Nat.zero_le _) ⟨rfl, rfl, rfl, rfl, trivial⟩ ⟨rfl, rfl, rfl, rfl, trivial⟩ (fun k _ => by cases BB.take k <;> exact ⟨rfl, rfl⟩) ?_
    intro k hk
    rcases Nat.lt_or_ge k BB.length with hkl | hkl
    · obtain ⟨b, hb⟩ : ∃ b, BB[k]? = some b := ⟨_, List.getElem?_eq_getElem hkl⟩
      obtain ⟨_, ad, rfl, _⟩ := hB.ptr (by omega)
      have e0 := fun (w' : World) hw' => rd_ati (hB.below (w' := w') hw') hb
      have ht : BB.take (k + 1) = BB.take k ++ [b] := by rw [List.take_add_one, hb]; rfl
      have hlen : (BB.take k).length ≤ k := List.length_take_le _ _
      generalize BB.take k = T at *
      obtain ⟨b1, b2, b3, b4, b5, b6, b7, b8⟩ := b
      cases T with
      | nil =>
        repeat'
         conv => whnf
         first
          | refine zA ?_ | refine zB ?_ | refine zC ?_ | refine zD ?_ | refine zE ?_ | refine zF ?_ | refine zG ?_ | refine zH ?_ | refine zI ?_ | refine splT ?_ | refine splF ?_ | refine splNot ?_
          | ((first | refine splIn (fun hc => ?_) (fun hc => ?_) | refine splD (fun hc => ?_) (fun hc => ?_) | refine splE (fun hc => ?_) (fun hc => ?_) | refine splNE (fun hc => ?_) (fun hc => ?_)) <;> first | (exfalso; omega) | (exfalso; dsimp only at hc; omega) | skip)
          | refine Exists.intro (α := List Value) [iv b1, iv b2, iv b3, iv b4, iv b5, iv b6, iv b7, iv b8] ⟨⟨rfl, fun w' hw' => e0 w' hw'⟩, ?_⟩
          | ((with_reducible show CallEv _ _ 50 _ _ _ _ _); refine callE (k := 50) (fun β w' hbw => place_ok _ _ _) ?_)
        all_goals first | (exfalso; omega) | exact ⟨k + 1, by omega, by omega, Ent.ren (rho [(5, 9), (6, 10)]) rfl (by rw [ht]; rfl) ⟨rfl, rfl, rfl, rfl, trivial⟩ (by rw [ht]; exact ⟨rfl, rfl, rfl, rfl, rfl, trivial⟩) fun _ h => h⟩
      | cons a T =>
        simp only [List.length_cons] at hlen
        repeat'
         conv => whnf
         first
          | refine zA ?_ | refine zB ?_ | refine zC ?_ | refine zD ?_ | refine zE ?_ | refine zF ?_ | refine zG ?_ | refine zH ?_ | refine zI ?_ | refine splT ?_ | refine splF ?_ | refine splNot ?_
          | ((first | refine splIn (fun hc => ?_) (fun hc => ?_) | refine splD (fun hc => ?_) (fun hc => ?_) | refine splE (fun hc => ?_) (fun hc => ?_) | refine splNE (fun hc => ?_) (fun hc => ?_)) <;> first | (exfalso; omega) | (exfalso; dsimp only at hc; omega) | skip)
          | refine Exists.intro (α := List Value) [iv b1, iv b2, iv b3, iv b4, iv b5, iv b6, iv b7, iv b8] ⟨⟨rfl, fun w' hw' => e0 w' hw'⟩, ?_⟩
          | ((with_reducible show CallEv _ _ 50 _ _ _ _ _); refine callE (k := 50) (fun β w' hbw => place_ok _ _ _) ?_)
        all_goals first | (exfalso; omega) | exact ⟨k + 1, by omega, by omega, Ent.ren (rho [(5, 9), (6, 10)]) rfl (by rw [ht]; rfl) ⟨rfl, rfl, rfl, rfl, trivial⟩ (by rw [ht]; exact ⟨rfl, rfl, rfl, by simp [oSV]; rfl, by simp [oM]; rfl, trivial⟩) fun _ h => h⟩
    rw [List.take_of_length_le hkl]
    cases BB with
    | nil =>
      repeat'
       conv => whnf
       first
        | refine zA ?_ | refine zB ?_ | refine zC ?_ | refine zD ?_ | refine zE ?_ | refine zF ?_ | refine zG ?_ | refine zH ?_ | refine zI ?_ | refine splT ?_ | refine splF ?_ | refine splNot ?_
        | ((first | refine splIn (fun hc => ?_) (fun hc => ?_) | refine splD (fun hc => ?_) (fun hc => ?_) | refine splE (fun hc => ?_) (fun hc => ?_) | refine splNE (fun hc => ?_) (fun hc => ?_)) <;> first | (exfalso; omega) | (exfalso; dsimp only at hc; omega) | skip)
      all_goals first | (exfalso; omega) | skip
      refine loopN 9 (fun k : Nat => [(1, .ptr 0 0), (2, .ptr 1 0), (3, .ptr 4 0), (6, .v (iv k))]) (fun k => (0, .cells [.v (.slice po (p0 :: PP).length pc), .v (.slice bo ([] : List Bm).length bc), .v (iv f0), .v (iv f1), .v (iv f2), .v (.slice lo LL.length lc)] 48) :: (1, .cells [.v (.slice none 0 0), .v (.slice none 0 0), .v (iv 0), .v (iv 0), .v (iv 0), .v (.slice none 0 0)] 58) :: (2, .own 3 (PP.length + 1) 1 ((p0 :: PP).flatMap iF) 3) :: (4, .cells [.os 2 3 (PP.length + 1), .v (.slice none 0 0), .v (iv f0), .v (iv f1), .v (iv f2), oSV 7 8 (LL.take k)] 58) :: oM 7 8 5 Ld.cs 69 (LL.take k))
        (fun k => k ≤ LL.length) (fun k => LL.length - k) 0 (Nat.zero_le _) ⟨rfl, rfl, rfl, rfl, trivial⟩ ⟨rfl, rfl, rfl, rfl, trivial⟩ (fun k _ => by cases LL.take k <;> exact ⟨rfl, rfl⟩) ?_
      clear hk hkl
      intro k hk
      rcases Nat.lt_or_ge k LL.length with hkl | hkl
      · obtain ⟨l, hb⟩ : ∃ b, LL[k]? = some b := ⟨_, List.getElem?_eq_getElem hkl⟩
        obtain ⟨_, ad, rfl, _⟩ := hL.ptr (by omega)
        have e0 := fun (w' : World) hw' => rd_ati (hL.below (w' := w') hw') hb
        have ht : LL.take (k + 1) = LL.take k ++ [l] := by rw [List.take_add_one, hb]; rfl
        have hlen : (LL.take k).length ≤ k := List.length_take_le _ _
        generalize LL.take k = T at *
        obtain ⟨b1, b2, b3, b4, b5⟩ := l
        cases T with
        | nil =>
          repeat'
           conv => whnf
           first
            | refine zA ?_ | refine zB ?_ | refine zC ?_ | refine zD ?_ | refine zE ?_ | refine zF ?_ | refine zG ?_ | refine zH ?_ | refine zI ?_ | refine splT ?_ | refine splF ?_ | refine splNot ?_
            | ((first | refine splIn (fun hc => ?_) (fun hc => ?_) | refine splD (fun hc => ?_) (fun hc => ?_) | refine splE (fun hc => ?_) (fun hc => ?_) | refine splNE (fun hc => ?_) (fun hc => ?_)) <;> first | (exfalso; omega) | (exfalso; dsimp only at hc; omega) | skip)
            | refine Exists.intro (α := List Value) [iv b1, iv b2, .int .u8 b3, iv b4, iv b5] ⟨⟨rfl, fun w' hw' => e0 w' hw'⟩, ?_⟩
            | ((with_reducible show CallEv _ _ 50 _ _ _ _ _); refine callE (k := 50) (fun β w' hbw => place_ok _ _ _) ?_)
          all_goals first | (exfalso; omega) | exact ⟨k + 1, by omega, by omega, Ent.ren (rho [(7, 11), (8, 12)]) rfl (by rw [ht]; rfl) ⟨rfl, rfl, rfl, rfl, trivial⟩ (by rw [ht]; exact ⟨rfl, rfl, rfl, rfl, rfl, trivial⟩) fun _ h => h⟩
        | cons a T =>
          simp only [List.length_cons] at hlen
          repeat'
           conv => whnf
           first
            | refine zA ?_ | refine zB ?_ | refine zC ?_ | refine zD ?_ | refine zE ?_ | refine zF ?_ | refine zG ?_ | refine zH ?_ | refine zI ?_ | refine splT ?_ | refine splF ?_ | refine splNot ?_
            | ((first | refine splIn (fun hc => ?_) (fun hc => ?_) | refine splD (fun hc => ?_) (fun hc => ?_) | refine splE (fun hc => ?_) (fun hc => ?_) | refine splNE (fun hc => ?_) (fun hc => ?_)) <;> first | (exfalso; omega) | (exfalso; dsimp only at hc; omega) | skip)
            | refine Exists.intro (α := List Value) [iv b1, iv b2, .int .u8 b3, iv b4, iv b5] ⟨⟨rfl, fun w' hw' => e0 w' hw'⟩, ?_⟩
            | ((with_reducible show CallEv _ _ 50 _ _ _ _ _); refine callE (k := 50) (fun β w' hbw => place_ok _ _ _) ?_)
          all_goals first | (exfalso; omega) | exact ⟨k + 1, by omega, by omega, Ent.ren (rho [(7, 11), (8, 12)]) rfl (by rw [ht]; rfl) ⟨rfl, rfl, rfl, rfl, trivial⟩ (by rw [ht]; exact ⟨rfl, rfl, rfl, by simp [oSV]; rfl, by simp [oM]; rfl, trivial⟩) fun _ h => h⟩
      rw [List.take_of_length_le hkl]
      cases LL with
      | nil =>
        repeat'
         conv => whnf
         first
          | refine zA ?_ | refine zB ?_ | refine zC ?_ | refine zD ?_ | refine zE ?_ | refine zF ?_ | refine zG ?_ | refine zH ?_ | refine zI ?_ | refine splT ?_ | refine splF ?_ | refine splNot ?_
          | ((first | refine splIn (fun hc => ?_) (fun hc => ?_) | refine splD (fun hc => ?_) (fun hc => ?_) | refine splE (fun hc => ?_) (fun hc => ?_) | refine splNE (fun hc => ?_) (fun hc => ?_)) <;> first | (exfalso; omega) | (exfalso; dsimp only at hc; omega) | skip)
        all_goals first | (exfalso; omega) | exact ⟨fun w' h => h, fun β w' hBB hblk => ⟨((some ⟨β 2, 0, none⟩, β 3), (none, 0), (none, 0)), rfl, (((hblk 2 _ rfl rfl).imp fun _ q => Rd.of_owns (sz := 1) (f := iF) (bs := p0 :: PP) (fun _ => rfl) rfl rfl q).and ((show St _ (Rd 8 Bm.cs (.slice none 0 0) []) _ from fun _ _ => .inl ⟨rfl, rfl⟩).and (show St _ (Rd 5 Ld.cs (.slice none 0 0) []) _ from fun _ _ => .inl ⟨rfl, rfl⟩))).imp fun w2 q => ⟨q.1, q.2.1, q.2.2⟩⟩⟩
      | cons l0 LL =>
        repeat'
         conv => whnf
         first
          | refine zA ?_ | refine zB ?_ | refine zC ?_ | refine zD ?_ | refine zE ?_ | refine zF ?_ | refine zG ?_ | refine zH ?_ | refine zI ?_ | refine splT ?_ | refine splF ?_ | refine splNot ?_
          | ((first | refine splIn (fun hc => ?_) (fun hc => ?_) | refine splD (fun hc => ?_) (fun hc => ?_) | refine splE (fun hc => ?_) (fun hc => ?_) | refine splNE (fun hc => ?_) (fun hc => ?_)) <;> first | (exfalso; omega) | (exfalso; dsimp only at hc; omega) | skip)
        all_goals first | (exfalso; omega) | exact ⟨fun w' h => h, fun β w' hBB hblk => ⟨((some ⟨β 2, 0, none⟩, β 3), (none, 0), (some ⟨β 7, 0, none⟩, β 8)), rfl, (((hblk 2 _ rfl rfl).imp fun _ q => Rd.of_owns (sz := 1) (f := iF) (bs := p0 :: PP) (fun _ => rfl) rfl rfl q).and ((show St _ (Rd 8 Bm.cs (.slice none 0 0) []) _ from fun _ _ => .inl ⟨rfl, rfl⟩).and ((hblk 7 _ rfl rfl).imp fun _ q => Rd.of_owns (sz := 5) (f := Ld.cs) (bs := l0 :: LL) (fun _ => rfl) rfl rfl q))).imp fun w2 q => ⟨q.1, q.2.1, q.2.2⟩⟩⟩
    | cons b0 BB =>
      repeat'
       conv => whnf
       first
        | refine zA ?_ | refine zB ?_ | refine zC ?_ | refine zD ?_ | refine zE ?_ | refine zF ?_ | refine zG ?_ | refine zH ?_ | refine zI ?_ | refine splT ?_ | refine splF ?_ | refine splNot ?_
        | ((first | refine splIn (fun hc => ?_) (fun hc => ?_) | refine splD (fun hc => ?_) (fun hc => ?_) | refine splE (fun hc => ?_) (fun hc => ?_) | refine splNE (fun hc => ?_) (fun hc => ?_)) <;> first | (exfalso; omega) | (exfalso; dsimp only at hc; omega) | skip)
      all_goals first | (exfalso; omega) | skip
      refine loopN 9 (fun k : Nat => [(1, .ptr 0 0), (2, .ptr 1 0), (3, .ptr 4 0), (6, .v (iv k))]) (fun k => (0, .cells [.v (.slice po (p0 :: PP).length pc), .v (.slice bo (b0 :: BB).length bc), .v (iv f0), .v (iv f1), .v (iv f2), .v (.slice lo LL.length lc)] 48) :: (1, .cells [.v (.slice none 0 0), .v (.slice none 0 0), .v (iv 0), .v (iv 0), .v (iv 0), .v (.slice none 0 0)] 58) :: (2, .own 3 (PP.length + 1) 1 ((p0 :: PP).flatMap iF) 3) :: (5, .own 6 (BB.length + 1) 8 ((b0 :: BB).flatMap Bm.cs) 107) :: (4, .cells [.os 2 3 (PP.length + 1), .os 5 6 (BB.length + 1), .v (iv f0), .v (iv f1), .v (iv f2), oSV 7 8 (LL.take k)] 58) :: oM 7 8 5 Ld.cs 69 (LL.take k))
        (fun k => k ≤ LL.length) (fun k => LL.length - k) 0 (Nat.zero_le _) ⟨rfl, rfl, rfl, rfl, trivial⟩ ⟨rfl, rfl, rfl, rfl, rfl, trivial⟩ (fun k _ => by cases LL.take k <;> exact ⟨rfl, rfl⟩) ?_
      clear hk hkl
      intro k hk
      rcases Nat.lt_or_ge k LL.length with hkl | hkl
      · obtain ⟨l, hb⟩ : ∃ b, LL[k]? = some b := ⟨_, List.getElem?_eq_getElem hkl⟩
        obtain ⟨_, ad, rfl, _⟩ := hL.ptr (by omega)
        have e0 := fun (w' : World) hw' => rd_ati (hL.below (w' := w') hw') hb
        have ht : LL.take (k + 1) = LL.take k ++ [l] := by rw [List.take_add_one, hb]; rfl
        have hlen : (LL.take k).length ≤ k := List.length_take_le _ _
        generalize LL.take k = T at *
        obtain ⟨b1, b2, b3, b4, b5⟩ := l
        cases T with
        | nil =>
          repeat'
           conv => whnf
           first
            | refine zA ?_ | refine zB ?_ | refine zC ?_ | refine zD ?_ | refine zE ?_ | refine zF ?_ | refine zG ?_ | refine zH ?_ | refine zI ?_ | refine splT ?_ | refine splF ?_ | refine splNot ?_
            | ((first | refine splIn (fun hc => ?_) (fun hc => ?_) | refine splD (fun hc => ?_) (fun hc => ?_) | refine splE (fun hc => ?_) (fun hc => ?_) | refine splNE (fun hc => ?_) (fun hc => ?_)) <;> first | (exfalso; omega) | (exfalso; dsimp only at hc; omega) | skip)
            | refine Exists.intro (α := List Value) [iv b1, iv b2, .int .u8 b3, iv b4, iv b5] ⟨⟨rfl, fun w' hw' => e0 w' hw'⟩, ?_⟩
            | ((with_reducible show CallEv _ _ 50 _ _ _ _ _); refine callE (k := 50) (fun β w' hbw => place_ok _ _ _) ?_)
          all_goals first | (exfalso; omega) | exact ⟨k + 1, by omega, by omega, Ent.ren (rho [(7, 11), (8, 12)]) rfl (by rw [ht]; rfl) ⟨rfl, rfl, rfl, rfl, trivial⟩ (by rw [ht]; exact ⟨rfl, rfl, rfl, rfl, rfl, rfl, trivial⟩) fun _ h => h⟩
        | cons a T =>
          simp only [List.length_cons] at hlen
          repeat'
           conv => whnf
           first
            | refine zA ?_ | refine zB ?_ | refine zC ?_ | refine zD ?_ | refine zE ?_ | refine zF ?_ | refine zG ?_ | refine zH ?_ | refine zI ?_ | refine splT ?_ | refine splF ?_ | refine splNot ?_
            | ((first | refine splIn (fun hc => ?_) (fun hc => ?_) | refine splD (fun hc => ?_) (fun hc => ?_) | refine splE (fun hc => ?_) (fun hc => ?_) | refine splNE (fun hc => ?_) (fun hc => ?_)) <;> first | (exfalso; omega) | (exfalso; dsimp only at hc; omega) | skip)
            | refine Exists.intro (α := List Value) [iv b1, iv b2, .int .u8 b3, iv b4, iv b5] ⟨⟨rfl, fun w' hw' => e0 w' hw'⟩, ?_⟩
            | ((with_reducible show CallEv _ _ 50 _ _ _ _ _); refine callE (k := 50) (fun β w' hbw => place_ok _ _ _) ?_)
          all_goals first | (exfalso; omega) | exact ⟨k + 1, by omega, by omega, Ent.ren (rho [(7, 11), (8, 12)]) rfl (by rw [ht]; rfl) ⟨rfl, rfl, rfl, rfl, trivial⟩ (by rw [ht]; exact ⟨rfl, rfl, rfl, rfl, by simp [oSV]; rfl, by simp [oM]; rfl, trivial⟩) fun _ h => h⟩
      rw [List.take_of_length_le hkl]
      cases LL with
      | nil =>
        repeat'
         conv => whnf
         first
          | refine zA ?_ | refine zB ?_ | refine zC ?_ | refine zD ?_ | refine zE ?_ | refine zF ?_ | refine zG ?_ | refine zH ?_ | refine zI ?_ | refine splT ?_ | refine splF ?_ | refine splNot ?_
          | ((first | refine splIn (fun hc => ?_) (fun hc => ?_) | refine splD (fun hc => ?_) (fun hc => ?_) | refine splE (fun hc => ?_) (fun hc => ?_) | refine splNE (fun hc => ?_) (fun hc => ?_)) <;> first | (exfalso; omega) | (exfalso; dsimp only at hc; omega) | skip)
        all_goals first | (exfalso; omega) | exact ⟨fun w' h => h, fun β w' hBB hblk => ⟨((some ⟨β 2, 0, none⟩, β 3), (some ⟨β 5, 0, none⟩, β 6), (none, 0)), rfl, (((hblk 2 _ rfl rfl).imp fun _ q => Rd.of_owns (sz := 1) (f := iF) (bs := p0 :: PP) (fun _ => rfl) rfl rfl q).and (((hblk 5 _ rfl rfl).imp fun _ q => Rd.of_owns (sz := 8) (f := Bm.cs) (bs := b0 :: BB) (fun _ => rfl) rfl rfl q).and (show St _ (Rd 5 Ld.cs (.slice none 0 0) []) _ from fun _ _ => .inl ⟨rfl, rfl⟩))).imp fun w2 q => ⟨q.1, q.2.1, q.2.2⟩⟩⟩
      | cons l0 LL =>
        repeat'
         conv => whnf
         first
          | refine zA ?_ | refine zB ?_ | refine zC ?_ | refine zD ?_ | refine zE ?_ | refine zF ?_ | refine zG ?_ | refine zH ?_ | refine zI ?_ | refine splT ?_ | refine splF ?_ | refine splNot ?_
          | ((first | refine splIn (fun hc => ?_) (fun hc => ?_) | refine splD (fun hc => ?_) (fun hc => ?_) | refine splE (fun hc => ?_) (fun hc => ?_) | refine splNE (fun hc => ?_) (fun hc => ?_)) <;> first | (exfalso; omega) | (exfalso; dsimp only at hc; omega) | skip)
        all_goals first | (exfalso; omega) | exact ⟨fun w' h => h, fun β w' hBB hblk => ⟨((some ⟨β 2, 0, none⟩, β 3), (some ⟨β 5, 0, none⟩, β 6), (some ⟨β 7, 0, none⟩, β 8)), rfl, (((hblk 2 _ rfl rfl).imp fun _ q => Rd.of_owns (sz := 1) (f := iF) (bs := p0 :: PP) (fun _ => rfl) rfl rfl q).and (((hblk 5 _ rfl rfl).imp fun _ q => Rd.of_owns (sz := 8) (f := Bm.cs) (bs := b0 :: BB) (fun _ => rfl) rfl rfl q).and ((hblk 7 _ rfl rfl).imp fun _ q => Rd.of_owns (sz := 5) (f := Ld.cs) (bs := l0 :: LL) (fun _ => rfl) rfl rfl q))).imp fun w2 q => ⟨q.1, q.2.1, q.2.2⟩⟩⟩
end Go.Proofs.Ytaciigegbgnadaa
