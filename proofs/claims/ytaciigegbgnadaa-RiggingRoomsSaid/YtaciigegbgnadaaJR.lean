/- Rig without points: its rows as the caller's own. By JR.py. -/
import Derived.Test.YtaciigegbgnadaaJH
namespace Go.Proofs.Ytaciigegbgnadaa
open Go Tx Go.RowKit
set_option linter.unusedSimpArgs false
set_option linter.unusedVariables false
abbrev rigS0 (nb : Nat) (BB : List Bm) (LL : List Ld) (f0 f1 f2 : Int) : SV := .agg [.v (.slice none 0 0), oSV (nb + 2) (nb + 3) BB, .v (iv f0), .v (iv f1), .v (iv f2), oSV (nb + 4) (nb + 5) LL]
abbrev rigM0 (nb : Nat) (BB : List Bm) (LL : List Ld) : List (Nat × Blk) := oM (nb + 2) (nb + 3) 8 Bm.cs 107 BB ++ oM (nb + 4) (nb + 5) 5 Ld.cs 69 LL

set_option maxHeartbeats 8000000 in
set_option maxRecDepth 100000 in
theorem Rig_own0 (r : Rig) (BB : List Bm) (LL : List Ld) (w : World) (h : RigIn r [] BB LL w) (hbm : BB.length ≤ 1000) (hlm : LL.length ≤ 1000) :
    Calls Try.prog 30 #[r.v] w fun e w' => ∃ γ : Nat → Nat, e = .returned ((rigS0 0 BB LL r.f0 r.f1 r.f2).c γ) ∧ Below w.heap.size w w' ∧ (∀ i b, (i, b) ∈ rigM0 0 BB LL → w.heap.size ≤ γ i ∧ b.ok γ w' (γ i)) ∧ ∀ i b j b', (i, b) ∈ rigM0 0 BB LL → (j, b') ∈ rigM0 0 BB LL → i ≠ j → γ i ≠ γ j := by
  obtain ⟨po, pn, pc, bo, bn, bc, f0, f1, f2, lo, ln, lc⟩ := r
  obtain ⟨hP, hB, hL, hpn, rfl, rfl, l1, l2, l3⟩ := h
  dsimp only [List.length_nil] at hpn
  subst hpn
  dsimp only at hB hL l1 l2 l3 ⊢
  refine calls_fam3 env mixed Try.func30 has30 Try.ntmps30 [.agg #[.slice po 0 pc, .slice bo BB.length bc, iv f0, iv f1, iv f2, .slice lo LL.length lc]] (by simp) ?_
  · skip
    have hlo := fun (w' : World) (hb : Below w.heap.size w w') => list_none po pc w' (hP.below hb)
    repeat'
     conv => whnf
     first
      | refine zA ?_ | refine zB ?_ | refine zC ?_ | refine zD ?_ | refine zE ?_ | refine zF ?_ | refine zG ?_ | refine zH ?_ | refine zJ ?_ | refine zI ?_ | refine splT ?_ | refine splF ?_ | refine splNot ?_
      | ((first | refine splIn (fun hc => ?_) (fun hc => ?_) | refine splD (fun hc => ?_) (fun hc => ?_) | refine splE (fun hc => ?_) (fun hc => ?_) | refine splNE (fun hc => ?_) (fun hc => ?_)) <;> first | (exfalso; omega) | (exfalso; dsimp only at hc; omega) | skip)
      | ((with_reducible show CallEv _ _ 31 _ _ _ _ _); refine callE (k := 31) (fun β w' hbw => hlo _ hbw) ?_)
    refine loopN 5 (fun k : Nat => [(1, .ptr 0 0), (2, .ptr 1 0), (3, .ptr 2 0), (4, .v (iv k))]) (fun k => (0, .cells [.v (.slice po 0 pc), .v (.slice bo BB.length bc), .v (iv f0), .v (iv f1), .v (iv f2), .v (.slice lo LL.length lc)] 48) :: (1, .cells [.v (.slice none 0 0), .v (.slice none 0 0), .v (iv 0), .v (iv 0), .v (iv 0), .v (.slice none 0 0)] 58) :: (2, .cells [.v (.slice none 0 0), oSV 3 4 (BB.take k), .v (iv f0), .v (iv f1), .v (iv f2), .v (.slice none 0 0)] 58) :: oM 3 4 8 Bm.cs 107 (BB.take k))
      (fun k => k ≤ BB.length) (fun k => BB.length - k) 0 (Nat.zero_le _) ⟨rfl, rfl, rfl, rfl, trivial⟩ ⟨rfl, rfl, rfl, trivial⟩ (fun k _ => by cases BB.take k <;> exact ⟨rfl, rfl⟩) ?_
    intro k hk
    rcases Nat.lt_or_ge k BB.length with hkl | hkl
    · obtain ⟨b, hb⟩ : ∃ b, BB[k]? = some b := ⟨_, List.getElem?_eq_getElem hkl⟩
      obtain ⟨_, ad, rfl, _⟩ := hB.ptr (by omega)
      have e0 := fun (w' : World) hw' => rd_ati (hB.below (w' := w') hw') hb
      have ht : BB.take (k + 1) = BB.take k ++ [b] := by rw [List.take_add_one, hb]; rfl
      have hlen : (BB.take k).length ≤ k := List.length_take_le _ _
      generalize BB.take k = T at *
      obtain ⟨b1, b2, b3, b4, b5, b6, b7, b8⟩ := b
      cases T with
      | nil =>
        repeat'
         conv => whnf
         first
          | refine zA ?_ | refine zB ?_ | refine zC ?_ | refine zD ?_ | refine zE ?_ | refine zF ?_ | refine zG ?_ | refine zH ?_ | refine zJ ?_ | refine zI ?_ | refine splT ?_ | refine splF ?_ | refine splNot ?_
          | ((first | refine splIn (fun hc => ?_) (fun hc => ?_) | refine splD (fun hc => ?_) (fun hc => ?_) | refine splE (fun hc => ?_) (fun hc => ?_) | refine splNE (fun hc => ?_) (fun hc => ?_)) <;> first | (exfalso; omega) | (exfalso; dsimp only at hc; omega) | skip)
          | refine Exists.intro (α := List Value) [iv b1, iv b2, iv b3, iv b4, iv b5, iv b6, iv b7, iv b8] ⟨⟨rfl, fun w' hw' => e0 w' hw'⟩, ?_⟩
          | ((with_reducible show CallEv _ _ 50 _ _ _ _ _); refine callE (k := 50) (fun β w' hbw => place_ok _ _ _) ?_)
        all_goals first | (exfalso; omega) | exact ⟨k + 1, by omega, by omega, Ent.ren (rho [(3, 7), (4, 8)]) rfl (by rw [ht]; rfl) ⟨rfl, rfl, rfl, rfl, trivial⟩ (by rw [ht]; exact ⟨rfl, rfl, rfl, rfl, trivial⟩) fun _ h => h⟩
      | cons a T =>
        simp only [List.length_cons] at hlen
        repeat'
         conv => whnf
         first
          | refine zA ?_ | refine zB ?_ | refine zC ?_ | refine zD ?_ | refine zE ?_ | refine zF ?_ | refine zG ?_ | refine zH ?_ | refine zJ ?_ | refine zI ?_ | refine splT ?_ | refine splF ?_ | refine splNot ?_
          | ((first | refine splIn (fun hc => ?_) (fun hc => ?_) | refine splD (fun hc => ?_) (fun hc => ?_) | refine splE (fun hc => ?_) (fun hc => ?_) | refine splNE (fun hc => ?_) (fun hc => ?_)) <;> first | (exfalso; omega) | (exfalso; dsimp only at hc; omega) | skip)
          | refine Exists.intro (α := List Value) [iv b1, iv b2, iv b3, iv b4, iv b5, iv b6, iv b7, iv b8] ⟨⟨rfl, fun w' hw' => e0 w' hw'⟩, ?_⟩
          | ((with_reducible show CallEv _ _ 50 _ _ _ _ _); refine callE (k := 50) (fun β w' hbw => place_ok _ _ _) ?_)
        all_goals first | (exfalso; omega) | exact ⟨k + 1, by omega, by omega, Ent.ren (rho [(3, 7), (4, 8)]) rfl (by rw [ht]; rfl) ⟨rfl, rfl, rfl, rfl, trivial⟩ (by rw [ht]; exact ⟨rfl, rfl, by simp [oSV]; rfl, by simp [oM]; rfl, trivial⟩) fun _ h => h⟩
    rw [List.take_of_length_le hkl]
    cases BB with
    | nil =>
      repeat'
       conv => whnf
       first
        | refine zA ?_ | refine zB ?_ | refine zC ?_ | refine zD ?_ | refine zE ?_ | refine zF ?_ | refine zG ?_ | refine zH ?_ | refine zJ ?_ | refine zI ?_ | refine splT ?_ | refine splF ?_ | refine splNot ?_
        | ((first | refine splIn (fun hc => ?_) (fun hc => ?_) | refine splD (fun hc => ?_) (fun hc => ?_) | refine splE (fun hc => ?_) (fun hc => ?_) | refine splNE (fun hc => ?_) (fun hc => ?_)) <;> first | (exfalso; omega) | (exfalso; dsimp only at hc; omega) | skip)
      all_goals first | (exfalso; omega) | skip
      refine loopN 7 (fun k : Nat => [(1, .ptr 0 0), (2, .ptr 1 0), (3, .ptr 2 0), (6, .v (iv k))]) (fun k => (0, .cells [.v (.slice po 0 pc), .v (.slice bo ([] : List Bm).length bc), .v (iv f0), .v (iv f1), .v (iv f2), .v (.slice lo LL.length lc)] 48) :: (1, .cells [.v (.slice none 0 0), .v (.slice none 0 0), .v (iv 0), .v (iv 0), .v (iv 0), .v (.slice none 0 0)] 58) :: (2, .cells [.v (.slice none 0 0), .v (.slice none 0 0), .v (iv f0), .v (iv f1), .v (iv f2), oSV 5 6 (LL.take k)] 58) :: oM 5 6 5 Ld.cs 69 (LL.take k))
        (fun k => k ≤ LL.length) (fun k => LL.length - k) 0 (Nat.zero_le _) ⟨rfl, rfl, rfl, rfl, trivial⟩ ⟨rfl, rfl, rfl, trivial⟩ (fun k _ => by cases LL.take k <;> exact ⟨rfl, rfl⟩) ?_
      clear hk hkl
      intro k hk
      rcases Nat.lt_or_ge k LL.length with hkl | hkl
      · obtain ⟨l, hb⟩ : ∃ b, LL[k]? = some b := ⟨_, List.getElem?_eq_getElem hkl⟩
        obtain ⟨_, ad, rfl, _⟩ := hL.ptr (by omega)
        have e0 := fun (w' : World) hw' => rd_ati (hL.below (w' := w') hw') hb
        have ht : LL.take (k + 1) = LL.take k ++ [l] := by rw [List.take_add_one, hb]; rfl
        have hlen : (LL.take k).length ≤ k := List.length_take_le _ _
        generalize LL.take k = T at *
        obtain ⟨b1, b2, b3, b4, b5⟩ := l
        cases T with
        | nil =>
          repeat'
           conv => whnf
           first
            | refine zA ?_ | refine zB ?_ | refine zC ?_ | refine zD ?_ | refine zE ?_ | refine zF ?_ | refine zG ?_ | refine zH ?_ | refine zJ ?_ | refine zI ?_ | refine splT ?_ | refine splF ?_ | refine splNot ?_
            | ((first | refine splIn (fun hc => ?_) (fun hc => ?_) | refine splD (fun hc => ?_) (fun hc => ?_) | refine splE (fun hc => ?_) (fun hc => ?_) | refine splNE (fun hc => ?_) (fun hc => ?_)) <;> first | (exfalso; omega) | (exfalso; dsimp only at hc; omega) | skip)
            | refine Exists.intro (α := List Value) [iv b1, iv b2, .int .u8 b3, iv b4, iv b5] ⟨⟨rfl, fun w' hw' => e0 w' hw'⟩, ?_⟩
            | ((with_reducible show CallEv _ _ 50 _ _ _ _ _); refine callE (k := 50) (fun β w' hbw => place_ok _ _ _) ?_)
          all_goals first | (exfalso; omega) | exact ⟨k + 1, by omega, by omega, Ent.ren (rho [(5, 9), (6, 10)]) rfl (by rw [ht]; rfl) ⟨rfl, rfl, rfl, rfl, trivial⟩ (by rw [ht]; exact ⟨rfl, rfl, rfl, rfl, trivial⟩) fun _ h => h⟩
        | cons a T =>
          simp only [List.length_cons] at hlen
          repeat'
           conv => whnf
           first
            | refine zA ?_ | refine zB ?_ | refine zC ?_ | refine zD ?_ | refine zE ?_ | refine zF ?_ | refine zG ?_ | refine zH ?_ | refine zJ ?_ | refine zI ?_ | refine splT ?_ | refine splF ?_ | refine splNot ?_
            | ((first | refine splIn (fun hc => ?_) (fun hc => ?_) | refine splD (fun hc => ?_) (fun hc => ?_) | refine splE (fun hc => ?_) (fun hc => ?_) | refine splNE (fun hc => ?_) (fun hc => ?_)) <;> first | (exfalso; omega) | (exfalso; dsimp only at hc; omega) | skip)
            | refine Exists.intro (α := List Value) [iv b1, iv b2, .int .u8 b3, iv b4, iv b5] ⟨⟨rfl, fun w' hw' => e0 w' hw'⟩, ?_⟩
            | ((with_reducible show CallEv _ _ 50 _ _ _ _ _); refine callE (k := 50) (fun β w' hbw => place_ok _ _ _) ?_)
          all_goals first | (exfalso; omega) | exact ⟨k + 1, by omega, by omega, Ent.ren (rho [(5, 9), (6, 10)]) rfl (by rw [ht]; rfl) ⟨rfl, rfl, rfl, rfl, trivial⟩ (by rw [ht]; exact ⟨rfl, rfl, by simp [oSV]; rfl, by simp [oM]; rfl, trivial⟩) fun _ h => h⟩
      rw [List.take_of_length_le hkl]
      cases LL with
      | nil =>
        repeat'
         conv => whnf
         first
          | refine zA ?_ | refine zB ?_ | refine zC ?_ | refine zD ?_ | refine zE ?_ | refine zF ?_ | refine zG ?_ | refine zH ?_ | refine zJ ?_ | refine zI ?_ | refine splT ?_ | refine splF ?_ | refine splNot ?_
          | ((first | refine splIn (fun hc => ?_) (fun hc => ?_) | refine splD (fun hc => ?_) (fun hc => ?_) | refine splE (fun hc => ?_) (fun hc => ?_) | refine splNE (fun hc => ?_) (fun hc => ?_)) <;> first | (exfalso; omega) | (exfalso; dsimp only at hc; omega) | skip)
        all_goals first | (exfalso; omega) | skip
        refine ⟨fun w' h => h, fun β w' hBB hB2 hblk hinj => ⟨(fun k => match k with | 2 => β 3 | 3 => β 4 | 4 => β 5 | _ => β 6), rfl, hB2, fun i b hm => ?_, fun i b j b' hm hm' hne => ?_⟩⟩
        · exact absurd hm (by simp [rigM0, oM])
        · exact absurd hm (by simp [rigM0, oM])
      | cons l0 LL =>
        repeat'
         conv => whnf
         first
          | refine zA ?_ | refine zB ?_ | refine zC ?_ | refine zD ?_ | refine zE ?_ | refine zF ?_ | refine zG ?_ | refine zH ?_ | refine zJ ?_ | refine zI ?_ | refine splT ?_ | refine splF ?_ | refine splNot ?_
          | ((first | refine splIn (fun hc => ?_) (fun hc => ?_) | refine splD (fun hc => ?_) (fun hc => ?_) | refine splE (fun hc => ?_) (fun hc => ?_) | refine splNE (fun hc => ?_) (fun hc => ?_)) <;> first | (exfalso; omega) | (exfalso; dsimp only at hc; omega) | skip)
        all_goals first | (exfalso; omega) | skip
        refine ⟨fun w' h => h, fun β w' hBB hB2 hblk hinj => ⟨(fun k => match k with | 2 => β 3 | 3 => β 4 | 4 => β 5 | _ => β 6), rfl, hB2, fun i b hm => ?_, fun i b j b' hm hm' hne => ?_⟩⟩
        · simp only [rigM0, oM, List.mem_cons, List.mem_append, List.nil_append, List.append_nil, List.cons_append, Prod.mk.injEq, List.not_mem_nil, or_false] at hm
          obtain ⟨rfl, rfl⟩ := hm
          exact ⟨(hblk 5 _ rfl rfl).1, (hblk 5 _ rfl rfl).2⟩
        · simp only [rigM0, oM, List.mem_cons, List.mem_append, List.nil_append, List.append_nil, List.cons_append, Prod.mk.injEq, List.not_mem_nil, or_false] at hm hm'
          exact absurd (hm.1.trans hm'.1.symm) hne
    | cons b0 BB =>
      repeat'
       conv => whnf
       first
        | refine zA ?_ | refine zB ?_ | refine zC ?_ | refine zD ?_ | refine zE ?_ | refine zF ?_ | refine zG ?_ | refine zH ?_ | refine zJ ?_ | refine zI ?_ | refine splT ?_ | refine splF ?_ | refine splNot ?_
        | ((first | refine splIn (fun hc => ?_) (fun hc => ?_) | refine splD (fun hc => ?_) (fun hc => ?_) | refine splE (fun hc => ?_) (fun hc => ?_) | refine splNE (fun hc => ?_) (fun hc => ?_)) <;> first | (exfalso; omega) | (exfalso; dsimp only at hc; omega) | skip)
      all_goals first | (exfalso; omega) | skip
      refine loopN 7 (fun k : Nat => [(1, .ptr 0 0), (2, .ptr 1 0), (3, .ptr 2 0), (6, .v (iv k))]) (fun k => (0, .cells [.v (.slice po 0 pc), .v (.slice bo (b0 :: BB).length bc), .v (iv f0), .v (iv f1), .v (iv f2), .v (.slice lo LL.length lc)] 48) :: (1, .cells [.v (.slice none 0 0), .v (.slice none 0 0), .v (iv 0), .v (iv 0), .v (iv 0), .v (.slice none 0 0)] 58) :: (3, .own 4 (BB.length + 1) 8 ((b0 :: BB).flatMap Bm.cs) 107) :: (2, .cells [.v (.slice none 0 0), .os 3 4 (BB.length + 1), .v (iv f0), .v (iv f1), .v (iv f2), oSV 5 6 (LL.take k)] 58) :: oM 5 6 5 Ld.cs 69 (LL.take k))
        (fun k => k ≤ LL.length) (fun k => LL.length - k) 0 (Nat.zero_le _) ⟨rfl, rfl, rfl, rfl, trivial⟩ ⟨rfl, rfl, rfl, rfl, trivial⟩ (fun k _ => by cases LL.take k <;> exact ⟨rfl, rfl⟩) ?_
      clear hk hkl
      intro k hk
      rcases Nat.lt_or_ge k LL.length with hkl | hkl
      · obtain ⟨l, hb⟩ : ∃ b, LL[k]? = some b := ⟨_, List.getElem?_eq_getElem hkl⟩
        obtain ⟨_, ad, rfl, _⟩ := hL.ptr (by omega)
        have e0 := fun (w' : World) hw' => rd_ati (hL.below (w' := w') hw') hb
        have ht : LL.take (k + 1) = LL.take k ++ [l] := by rw [List.take_add_one, hb]; rfl
        have hlen : (LL.take k).length ≤ k := List.length_take_le _ _
        generalize LL.take k = T at *
        obtain ⟨b1, b2, b3, b4, b5⟩ := l
        cases T with
        | nil =>
          repeat'
           conv => whnf
           first
            | refine zA ?_ | refine zB ?_ | refine zC ?_ | refine zD ?_ | refine zE ?_ | refine zF ?_ | refine zG ?_ | refine zH ?_ | refine zJ ?_ | refine zI ?_ | refine splT ?_ | refine splF ?_ | refine splNot ?_
            | ((first | refine splIn (fun hc => ?_) (fun hc => ?_) | refine splD (fun hc => ?_) (fun hc => ?_) | refine splE (fun hc => ?_) (fun hc => ?_) | refine splNE (fun hc => ?_) (fun hc => ?_)) <;> first | (exfalso; omega) | (exfalso; dsimp only at hc; omega) | skip)
            | refine Exists.intro (α := List Value) [iv b1, iv b2, .int .u8 b3, iv b4, iv b5] ⟨⟨rfl, fun w' hw' => e0 w' hw'⟩, ?_⟩
            | ((with_reducible show CallEv _ _ 50 _ _ _ _ _); refine callE (k := 50) (fun β w' hbw => place_ok _ _ _) ?_)
          all_goals first | (exfalso; omega) | exact ⟨k + 1, by omega, by omega, Ent.ren (rho [(5, 9), (6, 10)]) rfl (by rw [ht]; rfl) ⟨rfl, rfl, rfl, rfl, trivial⟩ (by rw [ht]; exact ⟨rfl, rfl, rfl, rfl, rfl, trivial⟩) fun _ h => h⟩
        | cons a T =>
          simp only [List.length_cons] at hlen
          repeat'
           conv => whnf
           first
            | refine zA ?_ | refine zB ?_ | refine zC ?_ | refine zD ?_ | refine zE ?_ | refine zF ?_ | refine zG ?_ | refine zH ?_ | refine zJ ?_ | refine zI ?_ | refine splT ?_ | refine splF ?_ | refine splNot ?_
            | ((first | refine splIn (fun hc => ?_) (fun hc => ?_) | refine splD (fun hc => ?_) (fun hc => ?_) | refine splE (fun hc => ?_) (fun hc => ?_) | refine splNE (fun hc => ?_) (fun hc => ?_)) <;> first | (exfalso; omega) | (exfalso; dsimp only at hc; omega) | skip)
            | refine Exists.intro (α := List Value) [iv b1, iv b2, .int .u8 b3, iv b4, iv b5] ⟨⟨rfl, fun w' hw' => e0 w' hw'⟩, ?_⟩
            | ((with_reducible show CallEv _ _ 50 _ _ _ _ _); refine callE (k := 50) (fun β w' hbw => place_ok _ _ _) ?_)
          all_goals first | (exfalso; omega) | exact ⟨k + 1, by omega, by omega, Ent.ren (rho [(5, 9), (6, 10)]) rfl (by rw [ht]; rfl) ⟨rfl, rfl, rfl, rfl, trivial⟩ (by rw [ht]; exact ⟨rfl, rfl, rfl, by simp [oSV]; rfl, by simp [oM]; rfl, trivial⟩) fun _ h => h⟩
      rw [List.take_of_length_le hkl]
      cases LL with
      | nil =>
        repeat'
         conv => whnf
         first
          | refine zA ?_ | refine zB ?_ | refine zC ?_ | refine zD ?_ | refine zE ?_ | refine zF ?_ | refine zG ?_ | refine zH ?_ | refine zJ ?_ | refine zI ?_ | refine splT ?_ | refine splF ?_ | refine splNot ?_
          | ((first | refine splIn (fun hc => ?_) (fun hc => ?_) | refine splD (fun hc => ?_) (fun hc => ?_) | refine splE (fun hc => ?_) (fun hc => ?_) | refine splNE (fun hc => ?_) (fun hc => ?_)) <;> first | (exfalso; omega) | (exfalso; dsimp only at hc; omega) | skip)
        all_goals first | (exfalso; omega) | skip
        refine ⟨fun w' h => h, fun β w' hBB hB2 hblk hinj => ⟨(fun k => match k with | 2 => β 3 | 3 => β 4 | 4 => β 5 | _ => β 6), rfl, hB2, fun i b hm => ?_, fun i b j b' hm hm' hne => ?_⟩⟩
        · simp only [rigM0, oM, List.mem_cons, List.mem_append, List.nil_append, List.append_nil, List.cons_append, Prod.mk.injEq, List.not_mem_nil, or_false] at hm
          obtain ⟨rfl, rfl⟩ := hm
          exact ⟨(hblk 3 _ rfl rfl).1, (hblk 3 _ rfl rfl).2⟩
        · simp only [rigM0, oM, List.mem_cons, List.mem_append, List.nil_append, List.append_nil, List.cons_append, Prod.mk.injEq, List.not_mem_nil, or_false] at hm hm'
          exact absurd (hm.1.trans hm'.1.symm) hne
      | cons l0 LL =>
        repeat'
         conv => whnf
         first
          | refine zA ?_ | refine zB ?_ | refine zC ?_ | refine zD ?_ | refine zE ?_ | refine zF ?_ | refine zG ?_ | refine zH ?_ | refine zJ ?_ | refine zI ?_ | refine splT ?_ | refine splF ?_ | refine splNot ?_
          | ((first | refine splIn (fun hc => ?_) (fun hc => ?_) | refine splD (fun hc => ?_) (fun hc => ?_) | refine splE (fun hc => ?_) (fun hc => ?_) | refine splNE (fun hc => ?_) (fun hc => ?_)) <;> first | (exfalso; omega) | (exfalso; dsimp only at hc; omega) | skip)
        all_goals first | (exfalso; omega) | skip
        refine ⟨fun w' h => h, fun β w' hBB hB2 hblk hinj => ⟨(fun k => match k with | 2 => β 3 | 3 => β 4 | 4 => β 5 | _ => β 6), rfl, hB2, fun i b hm => ?_, fun i b j b' hm hm' hne => ?_⟩⟩
        · simp only [rigM0, oM, List.mem_cons, List.mem_append, List.nil_append, List.append_nil, List.cons_append, Prod.mk.injEq, List.not_mem_nil, or_false] at hm
          rcases hm with ⟨rfl, rfl⟩ | ⟨rfl, rfl⟩
          · exact ⟨(hblk 3 _ rfl rfl).1, (hblk 3 _ rfl rfl).2⟩
          · exact ⟨(hblk 5 _ rfl rfl).1, (hblk 5 _ rfl rfl).2⟩
        · simp only [rigM0, oM, List.mem_cons, List.mem_append, List.nil_append, List.append_nil, List.cons_append, Prod.mk.injEq, List.not_mem_nil, or_false] at hm hm'
          rcases hm with ⟨rfl, rfl⟩ | ⟨rfl, rfl⟩ <;> rcases hm' with ⟨rfl, rfl⟩ | ⟨rfl, rfl⟩ <;> first | exact absurd rfl hne | exact hinj _ _ _ _ rfl rfl rfl rfl (by decide)

theorem rig0_V (nb : Nat) (BB : List Bm) (LL : List Ld) (f0 f1 f2 : Int) (γ δ : Nat → Nat) (h : ∀ i, i < 6 → δ (nb + i) = γ i) : (rigS0 nb BB LL f0 f1 f2).c δ = (rigS0 0 BB LL f0 f1 f2).c γ := by
  have h2 := h 2 (by omega)
  have h3 := h 3 (by omega)
  have h4 := h 4 (by omega)
  have h5 := h 5 (by omega)
  cases BB <;> cases LL <;> simp [rigS0, oSV, SV.c, SV.cs, h2, h3, h4, h5]
theorem rig0_m (nb : Nat) (BB : List Bm) (LL : List Ld) (i : Nat) (b : Blk) (hi : (i, b) ∈ rigM0 nb BB LL) : ∃ i0 b0, i = nb + i0 ∧ i0 < 6 ∧ (i0, b0) ∈ rigM0 0 BB LL ∧ ∀ γ δ : Nat → Nat, (∀ i, i < 6 → δ (nb + i) = γ i) → ∀ w x, b0.ok γ w x → b.ok δ w x := by
  unfold rigM0 at hi
  rw [List.mem_append] at hi
  rcases hi with hi | hi
  · cases BB with
    | nil => cases hi
    | cons b0 BB =>
      simp only [oM, List.mem_singleton, Prod.mk.injEq] at hi
      obtain ⟨rfl, rfl⟩ := hi
      exact ⟨2, _, rfl, by omega, List.mem_append_left _ (List.mem_singleton.2 rfl), fun γ δ h w x ho => own_mv (h 3 (by omega)) ho⟩
  · cases LL with
    | nil => cases hi
    | cons l0 LL =>
      simp only [oM, List.mem_singleton, Prod.mk.injEq] at hi
      obtain ⟨rfl, rfl⟩ := hi
      exact ⟨4, _, rfl, by omega, List.mem_append_right _ (List.mem_singleton.2 rfl), fun γ δ h w x ho => own_mv (h 5 (by omega)) ho⟩
end Go.Proofs.Ytaciigegbgnadaa
