import Derived.Test.YtaciigegbgnadaaIY
/- Rig: its rows as the caller's own. By JA.py. -/
namespace Go.Proofs.Ytaciigegbgnadaa
open Go Tx Go.RowKit
set_option linter.unusedSimpArgs false
set_option linter.unusedVariables false
/-- A rig of the program whose rows have the names nb .. nb + 5. -/
abbrev rigS (nb n : Nat) (BB : List Bm) (LL : List Ld) (f0 f1 f2 : Int) : SV := .agg [.os nb (nb + 1) n, oSV (nb + 2) (nb + 3) BB, .v (iv f0), .v (iv f1), .v (iv f2), oSV (nb + 4) (nb + 5) LL]
abbrev rigM (nb : Nat) (PP : List Int) (BB : List Bm) (LL : List Ld) : List (Nat × Blk) := (nb, .own (nb + 1) PP.length 1 (PP.flatMap iF) 3) :: (oM (nb + 2) (nb + 3) 8 Bm.cs 107 BB ++ oM (nb + 4) (nb + 5) 5 Ld.cs 69 LL)

set_option maxHeartbeats 8000000 in
set_option maxRecDepth 100000 in
theorem Rig_own (r : Rig) (p0 : Int) (PP : List Int) (BB : List Bm) (LL : List Ld) (w : World) (h : RigIn r (p0 :: PP) BB LL w) (hbm : BB.length ≤ 1000) (hlm : LL.length ≤ 1000) :
    Calls Try.prog 30 #[r.v] w fun e w' => ∃ γ : Nat → Nat, e = .returned ((rigS 0 (PP.length + 1) BB LL r.f0 r.f1 r.f2).c γ) ∧ Below w.heap.size w w' ∧ (∀ i b, (i, b) ∈ rigM 0 (p0 :: PP) BB LL → w.heap.size ≤ γ i ∧ b.ok γ w' (γ i)) ∧ ∀ i b j b', (i, b) ∈ rigM 0 (p0 :: PP) BB LL → (j, b') ∈ rigM 0 (p0 :: PP) BB LL → i ≠ j → γ i ≠ γ j := by
  obtain ⟨po, pn, pc, bo, bn, bc, f0, f1, f2, lo, ln, lc⟩ := r
  obtain ⟨hP, hB, hL, rfl, rfl, rfl, l1, l2, l3⟩ := h
  dsimp only at hP hB hL l1 l2 l3 ⊢
  refine calls_fam3 env mixed Try.func30 has30 Try.ntmps30 [.agg #[.slice po (p0 :: PP).length pc, .slice bo BB.length bc, iv f0, iv f1, iv f2, .slice lo LL.length lc]] (by simp) ?_
  · skip
    have hlo := fun (w' : World) (hb : Below w.heap.size w w') => list_own (p0 :: PP) po pc w' (hP.below hb) (by simp) l1
    repeat'
     conv => whnf
     first
      | refine zA ?_ | refine zB ?_ | refine zC ?_ | refine zD ?_ | refine zE ?_ | refine zF ?_ | refine zG ?_ | refine zH ?_ | refine zI ?_ | refine splT ?_ | refine splF ?_ | refine splNot ?_
      | ((first | refine splIn (fun hc => ?_) (fun hc => ?_) | refine splD (fun hc => ?_) (fun hc => ?_) | refine splE (fun hc => ?_) (fun hc => ?_) | refine splNE (fun hc => ?_) (fun hc => ?_)) <;> first | (exfalso; omega) | (exfalso; dsimp only at hc; omega) | skip)
      | ((with_reducible show CallEv _ _ 31 _ _ _ _ _); refine callO 2 [] (.os 2 3 (PP.length + 1)) (PP.length + 1) 1 ((p0 :: PP).flatMap iF) 3 rfl (fun β w' _ hbw => (hlo w' hbw).mono fun _ _ ⟨b, c, h1, h2, h3, h4⟩ => ⟨b, c, h1, h2, h3, h4⟩) ?_)
    refine loopN 7 (fun k : Nat => [(1, .ptr 0 0), (2, .ptr 1 0), (3, .ptr 4 0), (4, .v (iv k))]) (fun k => (0, .cells [.v (.slice po (p0 :: PP).length pc), .v (.slice bo BB.length bc), .v (iv f0), .v (iv f1), .v (iv f2), .v (.slice lo LL.length lc)] 48) :: (1, .cells [.v (.slice none 0 0), .v (.slice none 0 0), .v (iv 0), .v (iv 0), .v (iv 0), .v (.slice none 0 0)] 58) :: (2, .own 3 (PP.length + 1) 1 ((p0 :: PP).flatMap iF) 3) :: (4, .cells [.os 2 3 (PP.length + 1), oSV 5 6 (BB.take k), .v (iv f0), .v (iv f1), .v (iv f2), .v (.slice none 0 0)] 58) :: oM 5 6 8 Bm.cs 107 (BB.take k))
      (fun k => k ≤ BB.length) (fun k => BB.length - k) 0 (Nat.zero_le _) ⟨rfl, rfl, rfl, rfl, trivial⟩ ⟨rfl, rfl, rfl, rfl, trivial⟩ (fun k _ => by cases BB.take k <;> exact ⟨rfl, rfl⟩) ?_
    intro k hk
    rcases Nat.lt_or_ge k BB.length with hkl | hkl
    · obtain ⟨b, hb⟩ : ∃ b, BB[k]? = some b := ⟨_, List.getElem?_eq_getElem hkl⟩
      obtain ⟨_, ad, rfl, _⟩ := hB.ptr (by omega)
      have e0 := fun (w' : World) hw' => rd_ati (hB.below (w' := w') hw') hb
      have ht : BB.take (k + 1) = BB.take k ++ [b] := by rw [List.take_add_one, hb]; rfl
      have hlen : (BB.take k).length ≤ k := List.length_take_le _ _
      generalize BB.take k = T at *
      obtain ⟨b1, b2, b3, b4, b5, b6, b7, b8⟩ := b
      cases T with
      | nil =>
        repeat'
         conv => whnf
         first
          | refine zA ?_ | refine zB ?_ | refine zC ?_ | refine zD ?_ | refine zE ?_ | refine zF ?_ | refine zG ?_ | refine zH ?_ | refine zI ?_ | refine splT ?_ | refine splF ?_ | refine splNot ?_
          | ((first | refine splIn (fun hc => ?_) (fun hc => ?_) | refine splD (fun hc => ?_) (fun hc => ?_) | refine splE (fun hc => ?_) (fun hc => ?_) | refine splNE (fun hc => ?_) (fun hc => ?_)) <;> first | (exfalso; omega) | (exfalso; dsimp only at hc; omega) | skip)
          | refine Exists.intro (α := List Value) [iv b1, iv b2, iv b3, iv b4, iv b5, iv b6, iv b7, iv b8] ⟨⟨rfl, fun w' hw' => e0 w' hw'⟩, ?_⟩
          | ((with_reducible show CallEv _ _ 50 _ _ _ _ _); refine callE (k := 50) (fun β w' hbw => place_ok _ _ _) ?_)
        all_goals first | (exfalso; omega) | exact ⟨k + 1, by omega, by omega, Ent.ren (rho [(5, 9), (6, 10)]) rfl (by rw [ht]; rfl) ⟨rfl, rfl, rfl, rfl, trivial⟩ (by rw [ht]; exact ⟨rfl, rfl, rfl, rfl, rfl, trivial⟩) fun _ h => h⟩
      | cons a T =>
        simp only [List.length_cons] at hlen
        repeat'
         conv => whnf
         first
          | refine zA ?_ | refine zB ?_ | refine zC ?_ | refine zD ?_ | refine zE ?_ | refine zF ?_ | refine zG ?_ | refine zH ?_ | refine zI ?_ | refine splT ?_ | refine splF ?_ | refine splNot ?_
          | ((first | refine splIn (fun hc => ?_) (fun hc => ?_) | refine splD (fun hc => ?_) (fun hc => ?_) | refine splE (fun hc => ?_) (fun hc => ?_) | refine splNE (fun hc => ?_) (fun hc => ?_)) <;> first | (exfalso; omega) | (exfalso; dsimp only at hc; omega) | skip)
          | refine Exists.intro (α := List Value) [iv b1, iv b2, iv b3, iv b4, iv b5, iv b6, iv b7, iv b8] ⟨⟨rfl, fun w' hw' => e0 w' hw'⟩, ?_⟩
          | ((with_reducible show CallEv _ _ 50 _ _ _ _ _); refine callE (k := 50) (fun β w' hbw => place_ok _ _ _) ?_)
        all_goals first | (exfalso; omega) | exact ⟨k + 1, by omega, by omega, Ent.ren (rho [(5, 9), (6, 10)]) rfl (by rw [ht]; rfl) ⟨rfl, rfl, rfl, rfl, trivial⟩ (by rw [ht]; exact ⟨rfl, rfl, rfl, by simp [oSV]; rfl, by simp [oM]; rfl, trivial⟩) fun _ h => h⟩
    rw [List.take_of_length_le hkl]
    cases BB with
    | nil =>
      repeat'
       conv => whnf
       first
        | refine zA ?_ | refine zB ?_ | refine zC ?_ | refine zD ?_ | refine zE ?_ | refine zF ?_ | refine zG ?_ | refine zH ?_ | refine zI ?_ | refine splT ?_ | refine splF ?_ | refine splNot ?_
        | ((first | refine splIn (fun hc => ?_) (fun hc => ?_) | refine splD (fun hc => ?_) (fun hc => ?_) | refine splE (fun hc => ?_) (fun hc => ?_) | refine splNE (fun hc => ?_) (fun hc => ?_)) <;> first | (exfalso; omega) | (exfalso; dsimp only at hc; omega) | skip)
      all_goals first | (exfalso; omega) | skip
      refine loopN 9 (fun k : Nat => [(1, .ptr 0 0), (2, .ptr 1 0), (3, .ptr 4 0), (6, .v (iv k))]) (fun k => (0, .cells [.v (.slice po (p0 :: PP).length pc), .v (.slice bo ([] : List Bm).length bc), .v (iv f0), .v (iv f1), .v (iv f2), .v (.slice lo LL.length lc)] 48) :: (1, .cells [.v (.slice none 0 0), .v (.slice none 0 0), .v (iv 0), .v (iv 0), .v (iv 0), .v (.slice none 0 0)] 58) :: (2, .own 3 (PP.length + 1) 1 ((p0 :: PP).flatMap iF) 3) :: (4, .cells [.os 2 3 (PP.length + 1), .v (.slice none 0 0), .v (iv f0), .v (iv f1), .v (iv f2), oSV 7 8 (LL.take k)] 58) :: oM 7 8 5 Ld.cs 69 (LL.take k))
        (fun k => k ≤ LL.length) (fun k => LL.length - k) 0 (Nat.zero_le _) ⟨rfl, rfl, rfl, rfl, trivial⟩ ⟨rfl, rfl, rfl, rfl, trivial⟩ (fun k _ => by cases LL.take k <;> exact ⟨rfl, rfl⟩) ?_
      clear hk hkl
      intro k hk
      rcases Nat.lt_or_ge k LL.length with hkl | hkl
      · obtain ⟨l, hb⟩ : ∃ b, LL[k]? = some b := ⟨_, List.getElem?_eq_getElem hkl⟩
        obtain ⟨_, ad, rfl, _⟩ := hL.ptr (by omega)
        have e0 := fun (w' : World) hw' => rd_ati (hL.below (w' := w') hw') hb
        have ht : LL.take (k + 1) = LL.take k ++ [l] := by rw [List.take_add_one, hb]; rfl
        have hlen : (LL.take k).length ≤ k := List.length_take_le _ _
        generalize LL.take k = T at *
        obtain ⟨b1, b2, b3, b4, b5⟩ := l
        cases T with
        | nil =>
          repeat'
           conv => whnf
           first
            | refine zA ?_ | refine zB ?_ | refine zC ?_ | refine zD ?_ | refine zE ?_ | refine zF ?_ | refine zG ?_ | refine zH ?_ | refine zI ?_ | refine splT ?_ | refine splF ?_ | refine splNot ?_
            | ((first | refine splIn (fun hc => ?_) (fun hc => ?_) | refine splD (fun hc => ?_) (fun hc => ?_) | refine splE (fun hc => ?_) (fun hc => ?_) | refine splNE (fun hc => ?_) (fun hc => ?_)) <;> first | (exfalso; omega) | (exfalso; dsimp only at hc; omega) | skip)
            | refine Exists.intro (α := List Value) [iv b1, iv b2, .int .u8 b3, iv b4, iv b5] ⟨⟨rfl, fun w' hw' => e0 w' hw'⟩, ?_⟩
            | ((with_reducible show CallEv _ _ 50 _ _ _ _ _); refine callE (k := 50) (fun β w' hbw => place_ok _ _ _) ?_)
          all_goals first | (exfalso; omega) | exact ⟨k + 1, by omega, by omega, Ent.ren (rho [(7, 11), (8, 12)]) rfl (by rw [ht]; rfl) ⟨rfl, rfl, rfl, rfl, trivial⟩ (by rw [ht]; exact ⟨rfl, rfl, rfl, rfl, rfl, trivial⟩) fun _ h => h⟩
        | cons a T =>
          simp only [List.length_cons] at hlen
          repeat'
           conv => whnf
           first
            | refine zA ?_ | refine zB ?_ | refine zC ?_ | refine zD ?_ | refine zE ?_ | refine zF ?_ | refine zG ?_ | refine zH ?_ | refine zI ?_ | refine splT ?_ | refine splF ?_ | refine splNot ?_
            | ((first | refine splIn (fun hc => ?_) (fun hc => ?_) | refine splD (fun hc => ?_) (fun hc => ?_) | refine splE (fun hc => ?_) (fun hc => ?_) | refine splNE (fun hc => ?_) (fun hc => ?_)) <;> first | (exfalso; omega) | (exfalso; dsimp only at hc; omega) | skip)
            | refine Exists.intro (α := List Value) [iv b1, iv b2, .int .u8 b3, iv b4, iv b5] ⟨⟨rfl, fun w' hw' => e0 w' hw'⟩, ?_⟩
            | ((with_reducible show CallEv _ _ 50 _ _ _ _ _); refine callE (k := 50) (fun β w' hbw => place_ok _ _ _) ?_)
          all_goals first | (exfalso; omega) | exact ⟨k + 1, by omega, by omega, Ent.ren (rho [(7, 11), (8, 12)]) rfl (by rw [ht]; rfl) ⟨rfl, rfl, rfl, rfl, trivial⟩ (by rw [ht]; exact ⟨rfl, rfl, rfl, by simp [oSV]; rfl, by simp [oM]; rfl, trivial⟩) fun _ h => h⟩
      rw [List.take_of_length_le hkl]
      cases LL with
      | nil =>
        repeat'
         conv => whnf
         first
          | refine zA ?_ | refine zB ?_ | refine zC ?_ | refine zD ?_ | refine zE ?_ | refine zF ?_ | refine zG ?_ | refine zH ?_ | refine zI ?_ | refine splT ?_ | refine splF ?_ | refine splNot ?_
          | ((first | refine splIn (fun hc => ?_) (fun hc => ?_) | refine splD (fun hc => ?_) (fun hc => ?_) | refine splE (fun hc => ?_) (fun hc => ?_) | refine splNE (fun hc => ?_) (fun hc => ?_)) <;> first | (exfalso; omega) | (exfalso; dsimp only at hc; omega) | skip)
        all_goals first | (exfalso; omega) | skip
        refine ⟨fun w' h => h, fun β w' hBB hB2 hblk hinj => ⟨(fun k => match k with | 0 => β 2 | 1 => β 3 | 2 => β 5 | 3 => β 6 | 4 => β 7 | _ => β 8), rfl, hB2, fun i b hm => ?_, fun i b j b' hm hm' hne => ?_⟩⟩
        · simp only [rigM, oM, List.mem_cons, List.mem_append, List.nil_append, List.append_nil, List.cons_append, Prod.mk.injEq, List.not_mem_nil, or_false] at hm
          obtain ⟨rfl, rfl⟩ := hm
          exact ⟨(hblk 2 _ rfl rfl).1, (hblk 2 _ rfl rfl).2⟩
        · simp only [rigM, oM, List.mem_cons, List.mem_append, List.nil_append, List.append_nil, List.cons_append, Prod.mk.injEq, List.not_mem_nil, or_false] at hm hm'
          exact absurd (hm.1.trans hm'.1.symm) hne
      | cons l0 LL =>
        repeat'
         conv => whnf
         first
          | refine zA ?_ | refine zB ?_ | refine zC ?_ | refine zD ?_ | refine zE ?_ | refine zF ?_ | refine zG ?_ | refine zH ?_ | refine zI ?_ | refine splT ?_ | refine splF ?_ | refine splNot ?_
          | ((first | refine splIn (fun hc => ?_) (fun hc => ?_) | refine splD (fun hc => ?_) (fun hc => ?_) | refine splE (fun hc => ?_) (fun hc => ?_) | refine splNE (fun hc => ?_) (fun hc => ?_)) <;> first | (exfalso; omega) | (exfalso; dsimp only at hc; omega) | skip)
        all_goals first | (exfalso; omega) | skip
        refine ⟨fun w' h => h, fun β w' hBB hB2 hblk hinj => ⟨(fun k => match k with | 0 => β 2 | 1 => β 3 | 2 => β 5 | 3 => β 6 | 4 => β 7 | _ => β 8), rfl, hB2, fun i b hm => ?_, fun i b j b' hm hm' hne => ?_⟩⟩
        · simp only [rigM, oM, List.mem_cons, List.mem_append, List.nil_append, List.append_nil, List.cons_append, Prod.mk.injEq, List.not_mem_nil, or_false] at hm
          rcases hm with ⟨rfl, rfl⟩ | ⟨rfl, rfl⟩
          · exact ⟨(hblk 2 _ rfl rfl).1, (hblk 2 _ rfl rfl).2⟩
          · exact ⟨(hblk 7 _ rfl rfl).1, (hblk 7 _ rfl rfl).2⟩
        · simp only [rigM, oM, List.mem_cons, List.mem_append, List.nil_append, List.append_nil, List.cons_append, Prod.mk.injEq, List.not_mem_nil, or_false] at hm hm'
          rcases hm with ⟨rfl, rfl⟩ | ⟨rfl, rfl⟩ <;> rcases hm' with ⟨rfl, rfl⟩ | ⟨rfl, rfl⟩ <;> first | exact absurd rfl hne | exact hinj _ _ _ _ rfl rfl rfl rfl (by decide)
    | cons b0 BB =>
      repeat'
       conv => whnf
       first
        | refine zA ?_ | refine zB ?_ | refine zC ?_ | refine zD ?_ | refine zE ?_ | refine zF ?_ | refine zG ?_ | refine zH ?_ | refine zI ?_ | refine splT ?_ | refine splF ?_ | refine splNot ?_
        | ((first | refine splIn (fun hc => ?_) (fun hc => ?_) | refine splD (fun hc => ?_) (fun hc => ?_) | refine splE (fun hc => ?_) (fun hc => ?_) | refine splNE (fun hc => ?_) (fun hc => ?_)) <;> first | (exfalso; omega) | (exfalso; dsimp only at hc; omega) | skip)
      all_goals first | (exfalso; omega) | skip
      refine loopN 9 (fun k : Nat => [(1, .ptr 0 0), (2, .ptr 1 0), (3, .ptr 4 0), (6, .v (iv k))]) (fun k => (0, .cells [.v (.slice po (p0 :: PP).length pc), .v (.slice bo (b0 :: BB).length bc), .v (iv f0), .v (iv f1), .v (iv f2), .v (.slice lo LL.length lc)] 48) :: (1, .cells [.v (.slice none 0 0), .v (.slice none 0 0), .v (iv 0), .v (iv 0), .v (iv 0), .v (.slice none 0 0)] 58) :: (2, .own 3 (PP.length + 1) 1 ((p0 :: PP).flatMap iF) 3) :: (5, .own 6 (BB.length + 1) 8 ((b0 :: BB).flatMap Bm.cs) 107) :: (4, .cells [.os 2 3 (PP.length + 1), .os 5 6 (BB.length + 1), .v (iv f0), .v (iv f1), .v (iv f2), oSV 7 8 (LL.take k)] 58) :: oM 7 8 5 Ld.cs 69 (LL.take k))
        (fun k => k ≤ LL.length) (fun k => LL.length - k) 0 (Nat.zero_le _) ⟨rfl, rfl, rfl, rfl, trivial⟩ ⟨rfl, rfl, rfl, rfl, rfl, trivial⟩ (fun k _ => by cases LL.take k <;> exact ⟨rfl, rfl⟩) ?_
      clear hk hkl
      intro k hk
      rcases Nat.lt_or_ge k LL.length with hkl | hkl
      · obtain ⟨l, hb⟩ : ∃ b, LL[k]? = some b := ⟨_, List.getElem?_eq_getElem hkl⟩
        obtain ⟨_, ad, rfl, _⟩ := hL.ptr (by omega)
        have e0 := fun (w' : World) hw' => rd_ati (hL.below (w' := w') hw') hb
        have ht : LL.take (k + 1) = LL.take k ++ [l] := by rw [List.take_add_one, hb]; rfl
        have hlen : (LL.take k).length ≤ k := List.length_take_le _ _
        generalize LL.take k = T at *
        obtain ⟨b1, b2, b3, b4, b5⟩ := l
        cases T with
        | nil =>
          repeat'
           conv => whnf
           first
            | refine zA ?_ | refine zB ?_ | refine zC ?_ | refine zD ?_ | refine zE ?_ | refine zF ?_ | refine zG ?_ | refine zH ?_ | refine zI ?_ | refine splT ?_ | refine splF ?_ | refine splNot ?_
            | ((first | refine splIn (fun hc => ?_) (fun hc => ?_) | refine splD (fun hc => ?_) (fun hc => ?_) | refine splE (fun hc => ?_) (fun hc => ?_) | refine splNE (fun hc => ?_) (fun hc => ?_)) <;> first | (exfalso; omega) | (exfalso; dsimp only at hc; omega) | skip)
            | refine Exists.intro (α := List Value) [iv b1, iv b2, .int .u8 b3, iv b4, iv b5] ⟨⟨rfl, fun w' hw' => e0 w' hw'⟩, ?_⟩
            | ((with_reducible show CallEv _ _ 50 _ _ _ _ _); refine callE (k := 50) (fun β w' hbw => place_ok _ _ _) ?_)
          all_goals first | (exfalso; omega) | exact ⟨k + 1, by omega, by omega, Ent.ren (rho [(7, 11), (8, 12)]) rfl (by rw [ht]; rfl) ⟨rfl, rfl, rfl, rfl, trivial⟩ (by rw [ht]; exact ⟨rfl, rfl, rfl, rfl, rfl, rfl, trivial⟩) fun _ h => h⟩
        | cons a T =>
          simp only [List.length_cons] at hlen
          repeat'
           conv => whnf
           first
            | refine zA ?_ | refine zB ?_ | refine zC ?_ | refine zD ?_ | refine zE ?_ | refine zF ?_ | refine zG ?_ | refine zH ?_ | refine zI ?_ | refine splT ?_ | refine splF ?_ | refine splNot ?_
            | ((first | refine splIn (fun hc => ?_) (fun hc => ?_) | refine splD (fun hc => ?_) (fun hc => ?_) | refine splE (fun hc => ?_) (fun hc => ?_) | refine splNE (fun hc => ?_) (fun hc => ?_)) <;> first | (exfalso; omega) | (exfalso; dsimp only at hc; omega) | skip)
            | refine Exists.intro (α := List Value) [iv b1, iv b2, .int .u8 b3, iv b4, iv b5] ⟨⟨rfl, fun w' hw' => e0 w' hw'⟩, ?_⟩
            | ((with_reducible show CallEv _ _ 50 _ _ _ _ _); refine callE (k := 50) (fun β w' hbw => place_ok _ _ _) ?_)
          all_goals first | (exfalso; omega) | exact ⟨k + 1, by omega, by omega, Ent.ren (rho [(7, 11), (8, 12)]) rfl (by rw [ht]; rfl) ⟨rfl, rfl, rfl, rfl, trivial⟩ (by rw [ht]; exact ⟨rfl, rfl, rfl, rfl, by simp [oSV]; rfl, by simp [oM]; rfl, trivial⟩) fun _ h => h⟩
      rw [List.take_of_length_le hkl]
      cases LL with
      | nil =>
        repeat'
         conv => whnf
         first
          | refine zA ?_ | refine zB ?_ | refine zC ?_ | refine zD ?_ | refine zE ?_ | refine zF ?_ | refine zG ?_ | refine zH ?_ | refine zI ?_ | refine splT ?_ | refine splF ?_ | refine splNot ?_
          | ((first | refine splIn (fun hc => ?_) (fun hc => ?_) | refine splD (fun hc => ?_) (fun hc => ?_) | refine splE (fun hc => ?_) (fun hc => ?_) | refine splNE (fun hc => ?_) (fun hc => ?_)) <;> first | (exfalso; omega) | (exfalso; dsimp only at hc; omega) | skip)
        all_goals first | (exfalso; omega) | skip
        refine ⟨fun w' h => h, fun β w' hBB hB2 hblk hinj => ⟨(fun k => match k with | 0 => β 2 | 1 => β 3 | 2 => β 5 | 3 => β 6 | 4 => β 7 | _ => β 8), rfl, hB2, fun i b hm => ?_, fun i b j b' hm hm' hne => ?_⟩⟩
        · simp only [rigM, oM, List.mem_cons, List.mem_append, List.nil_append, List.append_nil, List.cons_append, Prod.mk.injEq, List.not_mem_nil, or_false] at hm
          rcases hm with ⟨rfl, rfl⟩ | ⟨rfl, rfl⟩
          · exact ⟨(hblk 2 _ rfl rfl).1, (hblk 2 _ rfl rfl).2⟩
          · exact ⟨(hblk 5 _ rfl rfl).1, (hblk 5 _ rfl rfl).2⟩
        · simp only [rigM, oM, List.mem_cons, List.mem_append, List.nil_append, List.append_nil, List.cons_append, Prod.mk.injEq, List.not_mem_nil, or_false] at hm hm'
          rcases hm with ⟨rfl, rfl⟩ | ⟨rfl, rfl⟩ <;> rcases hm' with ⟨rfl, rfl⟩ | ⟨rfl, rfl⟩ <;> first | exact absurd rfl hne | exact hinj _ _ _ _ rfl rfl rfl rfl (by decide)
      | cons l0 LL =>
        repeat'
         conv => whnf
         first
          | refine zA ?_ | refine zB ?_ | refine zC ?_ | refine zD ?_ | refine zE ?_ | refine zF ?_ | refine zG ?_ | refine zH ?_ | refine zI ?_ | refine splT ?_ | refine splF ?_ | refine splNot ?_
          | ((first | refine splIn (fun hc => ?_) (fun hc => ?_) | refine splD (fun hc => ?_) (fun hc => ?_) | refine splE (fun hc => ?_) (fun hc => ?_) | refine splNE (fun hc => ?_) (fun hc => ?_)) <;> first | (exfalso; omega) | (exfalso; dsimp only at hc; omega) | skip)
        all_goals first | (exfalso; omega) | skip
        refine ⟨fun w' h => h, fun β w' hBB hB2 hblk hinj => ⟨(fun k => match k with | 0 => β 2 | 1 => β 3 | 2 => β 5 | 3 => β 6 | 4 => β 7 | _ => β 8), rfl, hB2, fun i b hm => ?_, fun i b j b' hm hm' hne => ?_⟩⟩
        · simp only [rigM, oM, List.mem_cons, List.mem_append, List.nil_append, List.append_nil, List.cons_append, Prod.mk.injEq, List.not_mem_nil, or_false] at hm
          rcases hm with ⟨rfl, rfl⟩ | ⟨rfl, rfl⟩ | ⟨rfl, rfl⟩
          · exact ⟨(hblk 2 _ rfl rfl).1, (hblk 2 _ rfl rfl).2⟩
          · exact ⟨(hblk 5 _ rfl rfl).1, (hblk 5 _ rfl rfl).2⟩
          · exact ⟨(hblk 7 _ rfl rfl).1, (hblk 7 _ rfl rfl).2⟩
        · simp only [rigM, oM, List.mem_cons, List.mem_append, List.nil_append, List.append_nil, List.cons_append, Prod.mk.injEq, List.not_mem_nil, or_false] at hm hm'
          rcases hm with ⟨rfl, rfl⟩ | ⟨rfl, rfl⟩ | ⟨rfl, rfl⟩ <;> rcases hm' with ⟨rfl, rfl⟩ | ⟨rfl, rfl⟩ | ⟨rfl, rfl⟩ <;> first | exact absurd rfl hne | exact hinj _ _ _ _ rfl rfl rfl rfl (by decide)
end Go.Proofs.Ytaciigegbgnadaa

/- The call of Rig: its rows as the caller's own. -/
namespace Go.Proofs.Ytaciigegbgnadaa
open Go Tx Go.RowKit
set_option linter.unusedSimpArgs false
set_option linter.unusedVariables false

theorem rigM_mem {nb i : Nat} {b : Blk} {p0 : Int} {PP : List Int} {BB : List Bm} {LL : List Ld} (h : (i, b) ∈ rigM nb (p0 :: PP) BB LL) :
    (i = nb ∧ b = .own (nb + 1) (p0 :: PP).length 1 ((p0 :: PP).flatMap iF) 3) ∨ (i = nb + 2 ∧ b = .own (nb + 3) BB.length 8 (BB.flatMap Bm.cs) 107 ∧ BB ≠ []) ∨ (i = nb + 4 ∧ b = .own (nb + 5) LL.length 5 (LL.flatMap Ld.cs) 69 ∧ LL ≠ []) := by
  unfold rigM at h
  rw [List.mem_cons, List.mem_append] at h
  rcases h with h | h | h
  · exact .inl (by simpa using h)
  · cases BB with
    | nil => cases h
    | cons b0 BB => simp only [oM, List.mem_singleton, Prod.mk.injEq] at h; exact .inr (.inl ⟨h.1, h.2, by simp⟩)
  · cases LL with
    | nil => cases h
    | cons l0 LL => simp only [oM, List.mem_singleton, Prod.mk.injEq] at h; exact .inr (.inr ⟨h.1, h.2, by simp⟩)
theorem rigM_of (nb : Nat) {p0 : Int} {PP : List Int} {BB : List Bm} {LL : List Ld} :
    (nb, Blk.own (nb + 1) (p0 :: PP).length 1 ((p0 :: PP).flatMap iF) 3) ∈ rigM nb (p0 :: PP) BB LL ∧ (BB ≠ [] → (nb + 2, Blk.own (nb + 3) BB.length 8 (BB.flatMap Bm.cs) 107) ∈ rigM nb (p0 :: PP) BB LL) ∧ (LL ≠ [] → (nb + 4, Blk.own (nb + 5) LL.length 5 (LL.flatMap Ld.cs) 69) ∈ rigM nb (p0 :: PP) BB LL) := by
  refine ⟨List.mem_cons_self, fun h => ?_, fun h => ?_⟩
  · cases BB with
    | nil => exact absurd rfl h
    | cons b0 BB => exact List.mem_cons_of_mem _ (List.mem_append_left _ List.mem_cons_self)
  · cases LL with
    | nil => exact absurd rfl h
    | cons l0 LL => exact List.mem_cons_of_mem _ (List.mem_append_right _ List.mem_cons_self)
/-- What Rig_own says, said with the caller's names. -/
theorem rig_mv {nb : Nat} {p0 : Int} {PP : List Int} {BB : List Bm} {LL : List Ld} {f0 f1 f2 : Int} {β : Nat → Nat} {w w' : World} {e : Ending}
    (h : ∃ γ : Nat → Nat, e = .returned ((rigS 0 (PP.length + 1) BB LL f0 f1 f2).c γ) ∧ Below w.heap.size w w' ∧ (∀ i b, (i, b) ∈ rigM 0 (p0 :: PP) BB LL → w.heap.size ≤ γ i ∧ b.ok γ w' (γ i)) ∧ ∀ i b j b', (i, b) ∈ rigM 0 (p0 :: PP) BB LL → (j, b') ∈ rigM 0 (p0 :: PP) BB LL → i ≠ j → γ i ≠ γ j) :
    ∃ γ : Nat → Nat, e = .returned ((rigS nb (PP.length + 1) BB LL f0 f1 f2).c γ) ∧ (∀ i, i ∉ [nb, nb + 1, nb + 2, nb + 3, nb + 4, nb + 5] → γ i = β i) ∧ Below w.heap.size w w' ∧ (∀ i b, (i, b) ∈ rigM nb (p0 :: PP) BB LL → w.heap.size ≤ γ i ∧ b.ok γ w' (γ i)) ∧ ∀ i b j b', (i, b) ∈ rigM nb (p0 :: PP) BB LL → (j, b') ∈ rigM nb (p0 :: PP) BB LL → i ≠ j → γ i ≠ γ j := by
  obtain ⟨γ, h1, h2, h3, h4⟩ := h
  have hk : ∀ k, k < 6 → (fun i => if nb ≤ i ∧ i < nb + 6 then γ (i - nb) else β i) (nb + k) = γ k := fun k hk => by
    show (if _ then _ else _) = _
    rw [if_pos (by omega), Nat.add_sub_cancel_left]
  have k0 := hk 0 (by omega)
  have k1 := hk 1 (by omega)
  have k2 := hk 2 (by omega)
  have k3 := hk 3 (by omega)
  have k4 := hk 4 (by omega)
  have k5 := hk 5 (by omega)
  have ha : ∀ i, i ∉ [nb, nb + 1, nb + 2, nb + 3, nb + 4, nb + 5] → (fun i => if nb ≤ i ∧ i < nb + 6 then γ (i - nb) else β i) i = β i := fun i hi => by
    simp only [List.mem_cons, List.not_mem_nil, or_false, not_or] at hi
    show (if _ then _ else _) = _
    rw [if_neg (by omega)]
  refine ⟨fun i => if nb ≤ i ∧ i < nb + 6 then γ (i - nb) else β i, ?_, ha, h2, ?_, ?_⟩
  all_goals generalize (fun i => if nb ≤ i ∧ i < nb + 6 then γ (i - nb) else β i) = δ at *
  all_goals rw [Nat.add_zero] at k0
  · rw [h1]
    cases BB <;> cases LL <;> simp [rigS, oSV, SV.c, SV.cs, k0, k1, k2, k3, k4, k5]
  · intro i b hm
    obtain ⟨m0, m1, m2⟩ := rigM_of 0 (p0 := p0) (PP := PP) (BB := BB) (LL := LL)
    rcases rigM_mem hm with ⟨rfl, rfl⟩ | ⟨rfl, rfl, hn⟩ | ⟨rfl, rfl, hn⟩
    · have := h3 _ _ m0
      rw [k0]; simp only [Blk.ok] at this ⊢; rw [k1]; exact this
    · have := h3 _ _ (m1 hn)
      rw [k2]; simp only [Blk.ok] at this ⊢; rw [k3]; exact this
    · have := h3 _ _ (m2 hn)
      rw [k4]; simp only [Blk.ok] at this ⊢; rw [k5]; exact this
  · intro i b j b' hm hm' hne
    obtain ⟨m0, m1, m2⟩ := rigM_of 0 (p0 := p0) (PP := PP) (BB := BB) (LL := LL)
    rcases rigM_mem hm with ⟨rfl, rfl⟩ | ⟨rfl, rfl, hn⟩ | ⟨rfl, rfl, hn⟩ <;> rcases rigM_mem hm' with ⟨rfl, rfl⟩ | ⟨rfl, rfl, hn'⟩ | ⟨rfl, rfl, hn'⟩
    · exact absurd rfl hne
    · rw [k0, k2]; exact h4 _ _ _ _ m0 (m1 hn') (by decide)
    · rw [k0, k4]; exact h4 _ _ _ _ m0 (m2 hn') (by decide)
    · rw [k2, k0]; exact h4 _ _ _ _ (m1 hn) m0 (by decide)
    · exact absurd rfl hne
    · rw [k2, k4]; exact h4 _ _ _ _ (m1 hn) (m2 hn') (by decide)
    · rw [k4, k0]; exact h4 _ _ _ _ (m2 hn) m0 (by decide)
    · rw [k4, k2]; exact h4 _ _ _ _ (m2 hn) (m1 hn') (by decide)
    · exact absurd rfl hne
end Go.Proofs.Ytaciigegbgnadaa

/- A cut behind which own rows count as memory of others: what they hold is told of the world from there on. -/
namespace Go.Proofs.Ytaciigegbgnadaa.Tx
open Go Go.RowKit
set_option linter.unusedSimpArgs false
set_option linter.unusedVariables false

/-- The slots' values are the same under these numbers. -/
def TEq (β : Nat → Nat) (t : List (Nat × SV)) : List (Nat × SV) → Prop
  | [] => True
  | (k, s) :: r => (∃ s', lk t k = some s' ∧ s'.c β = s.c β) ∧ TEq β t r
theorem TEq.get {β : Nat → Nat} {t : List (Nat × SV)} : ∀ {l : List (Nat × SV)}, TEq β t l → ∀ k s, lk l k = some s → ∃ s', lk t k = some s' ∧ s'.c β = s.c β
  | [], _, _, _, h => by simp [lk] at h
  | (j, x) :: r, ha, k, s, h => by
    simp only [lk] at h
    cases hb : Nat.beq k j with
    | true =>
      obtain rfl := Nat.eq_of_beq_eq_true hb
      rw [hb, cond_true, Option.some.injEq] at h
      subst h; exact ha.1
    | false =>
      rw [hb, cond_false] at h
      exact ha.2.get k s h
/-- The blocks' cells are the same under these numbers; none of them is of the list. -/
def MEq (L : List Nat) (β : Nat → Nat) (t : List (Nat × Blk)) : List (Nat × Blk) → Prop
  | [] => True
  | (k, b) :: r => (nin k L = true ∧ ∃ l l' ty, b = .cells l ty ∧ lk t k = some (.cells l' ty) ∧ SV.cs β l' = SV.cs β l) ∧ MEq L β t r
theorem MEq.get {L : List Nat} {β : Nat → Nat} {t : List (Nat × Blk)} : ∀ {l : List (Nat × Blk)}, MEq L β t l → ∀ k b, lk l k = some b → nin k L = true ∧ ∃ l l' ty, b = .cells l ty ∧ lk t k = some (.cells l' ty) ∧ SV.cs β l' = SV.cs β l
  | [], _, _, _, h => by simp [lk] at h
  | (j, x) :: r, ha, k, b, h => by
    simp only [lk] at h
    cases hb : Nat.beq k j with
    | true =>
      obtain rfl := Nat.eq_of_beq_eq_true hb
      rw [hb, cond_true, Option.some.injEq] at h
      subst h; exact ha.1
    | false =>
      rw [hb, cond_false] at h
      exact ha.2.get k b h
/-- From the state on one of the family holds. -/
def Dis {α : Type} (σ : Sg) (I : α → Sg) (pre : α → Prop) : Prop := ∀ (X : Cx) (a : Act) (w : World), Sat X σ a w → ∃ x, pre x ∧ Sat X (I x) a w
theorem Dis.ent {α : Type} {σ : Sg} {I : α → Sg} {pre : α → Prop} {x : α} (hx : pre x) (h : Ent σ (I x)) : Dis σ I pre := fun X a w hs => ⟨x, hx, h X a w hs⟩
theorem Blk.keep_at {β : Nat → Nat} {w w' : World} {b : Nat} {k : Blk} (hw : w'.heap[b]? = w.heap[b]?) (ho : k.ok β w b) : k.ok β w' b :=
  Blk.ok_congr (fr := []) (fun _ _ => rfl) k (Blk.av_nil k) (fun _ => hw) ho
theorem Dis.mk {α : Type} {nt nb nb' : Nat} {t : List (Nat × SV)} {m : List (Nat × Blk)} {h : World → Prop} {z : Gz} (L : List Nat) {t' : α → List (Nat × SV)} {m' : α → List (Nat × Blk)} {h' : α → World → Prop} {pre : α → Prop}
    (hL : ∀ i ∈ L, ∃ b, lk m i = some b ∧ b.live = true)
    (hx : ∀ β w, (∀ i b, lk m i = some b → b.ok β w (β i)) → h w → ∃ x, pre x ∧ TEq β t (t' x) ∧ MEq L β m (m' x) ∧ ∀ w2, h w2 → (∀ i ∈ L, ∀ b, lk m i = some b → b.ok β w2 (β i)) → h' x w2) :
    Dis ⟨nt, t, m, nb, h, z⟩ (fun x => ⟨nt, t' x, m' x, nb', h' x, z⟩) pre := by
  rintro X a w ⟨β, D, hs⟩
  obtain ⟨x, hp, ht, hm, hh⟩ := hx β w hs.m (hs.h w (Chg.refl _ _))
  have hLc : ∀ i ∈ L, ∃ cs ty fr, w.heap[β i]? = some (.cells cs ty fr) := fun i hi => by
    obtain ⟨b, h1, h2⟩ := hL i hi
    exact Blk.ok_cells h2 (hs.m i b h1)
  have hno : ∀ (d : Nat) (o : Obj), w.heap[d]? = some o → Other o → ¬ ∃ i ∈ L, β i = d := by
    rintro d o h1 h2 ⟨i, hi, rfl⟩
    obtain ⟨cs, ty, fr, h3⟩ := hLc i hi
    rw [h1] at h3
    cases h3
    exact h2 _ _ _ rfl
  refine ⟨x, hp, β, fun b => D b ∨ ∃ i ∈ L, β i = b, ?_, hs.size, ?_, ?_, ?_, ?_, ?_, ?_, ?_⟩
  · obtain ⟨l, l1, l2, l3⟩ := hs.defers
    refine ⟨l, l1, l2, fun d hd => ⟨(l3 d hd).1, ?_, (l3 d hd).2.2⟩⟩
    rintro (h1 | h1)
    · exact (l3 d hd).2.1 h1
    · exact hno d _ (l3 d hd).1 (fun _ _ _ h => by cases h) h1
  · intro k s hk
    obtain ⟨s', h1, h2⟩ := ht.get k s hk
    rw [← h2]; exact hs.t k s' h1
  · intro i b hi
    obtain ⟨_, l, l', ty, rfl, h1, h2⟩ := hm.get i b hi
    have := hs.m i _ h1
    simp only [Blk.ok] at this ⊢
    rw [← h2]; exact this
  · intro i j bi bj hi hj h1 h2 hne
    obtain ⟨_, l, l', ty, rfl, hi', _⟩ := hm.get i bi hi
    obtain ⟨_, l2, l2', ty2, rfl, hj', _⟩ := hm.get j bj hj
    exact hs.inj i j _ _ hi' hj' rfl rfl hne
  · intro i b hi hl
    obtain ⟨hn, l, l', ty, rfl, hi', _⟩ := hm.get i b hi
    rintro (h1 | ⟨j, hj, h1⟩)
    · exact hs.out i _ hi' rfl h1
    · obtain ⟨bj, h2, h3⟩ := hL j hj
      refine hs.inj j i _ _ h2 hi' h3 rfl (fun e => ?_) h1
      subst e
      exact nin_iff.1 hn hj
  · rintro b (h1 | ⟨j, hj, rfl⟩)
    · exact hs.dlt b h1
    · obtain ⟨cs, ty, fr, h3⟩ := hLc j hj
      exact (Array.getElem?_eq_some_iff.1 h3).1
  · intro w2 hc
    refine hh w2 (hs.h w2 ⟨hc.os, hc.tape, hc.output, hc.size, fun b hb hd => hc.same b hb fun h1 => hd fun h2 => h1 (.inl h2)⟩) fun i hi b hb => ?_
    obtain ⟨cs, ty, fr, h3⟩ := hLc i hi
    exact Blk.keep_at (hc.same _ (Array.getElem?_eq_some_iff.1 h3).1 fun h1 => h1 (.inr ⟨i, hi, rfl⟩)) (hs.m i b hb)
  · refine ⟨hs.amb.g, fun p hp' => ⟨(hs.amb.la p hp').1, ?_⟩, hs.amb.lq, hs.amb.dep, hs.amb.nd, fun d hd => ⟨(hs.amb.pr d hd).1, ?_⟩⟩
    · rintro (h1 | h1)
      · exact (hs.amb.la p hp').2 h1
      · obtain ⟨st, pd, h2⟩ := (hs.amb.la p hp').1
        exact hno _ _ h2 (fun _ _ _ h => by cases h) h1
    · rintro (h1 | h1)
      · exact (hs.amb.pr d hd).2 h1
      · exact hno _ _ (hs.amb.pr d hd).1 (fun _ _ _ h => by cases h) h1
section
variable {P : Program} (T : Env P)
/-- `VC.cutH`, where rows of the state's own count as memory of others from there on. -/
theorem VC.cutD (hm : P.follows .mixedOrders = true) {nt nb0 : Nat} {t0 : List (Nat × SV)} {m0 : List (Nat × Blk)} {hi : World → Prop} {z : Gz} {α : Type} (n nb : Nat) (t : α → List (Nat × SV)) (m : α → List (Nat × Blk)) (h : α → World → Prop) (pre : α → Prop) {c : Code} {Φ : Exit → Sg → Prop}
    (hok : ∀ x, pre x → tB nt nb (t x) = true ∧ mB nb (m x) = true)
    (hv : vcTo T n c ⟨nt, t0, m0, nb0, hi, z⟩ (fun c' σ' => c' = rest n c ∧ Dis σ' (fun x => ⟨nt, t x, m x, nb, h x, z⟩) pre) Φ) (hr : ∀ x, pre x → VC P (rest n c) ⟨nt, t x, m x, nb, h x, z⟩ Φ) (hz : gB nb z.g = true := by rfl) : VC P c ⟨nt, t0, m0, nb0, hi, z⟩ Φ :=
  vcTo_VC T hm (fun c' σ' ⟨hc, hd⟩ => by
    subst hc
    intro F k X a w hF hlp _ hs
    obtain ⟨x, hx, hs'⟩ := hd X a w hs
    exact hr x hx F k X a w hF hlp (okB (hok x hx).1 (hok x hx).2 hz) hs') n c _ hv
end
end Go.Proofs.Ytaciigegbgnadaa.Tx
