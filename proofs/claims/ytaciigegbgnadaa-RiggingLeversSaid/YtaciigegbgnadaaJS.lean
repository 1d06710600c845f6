/- Cuts that keep some own rows; rows that are filled from the left; stores into a row of loads. -/
import Derived.Test.YtaciigegbgnadaaJM
import Derived.Test.YtaciigegbgnadaaJD
import Derived.Test.YtaciigegbgnadaaJH
namespace Go.Proofs.Ytaciigegbgnadaa.Tx
open Go Go.RowKit
set_option linter.unusedSimpArgs false
set_option linter.unusedVariables false

/-- What is known of the blocks holds under these numbers; none of them is of the list. -/
def MEq2 (L : List Nat) (β : Nat → Nat) (t : List (Nat × Blk)) : List (Nat × Blk) → Prop
  | [] => True
  | (k, b) :: r => (nin k L = true ∧ ∃ b', lk t k = some b' ∧ (b.live = true → b'.live = true) ∧ ∀ w x, b'.ok β w x → b.ok β w x) ∧ MEq2 L β t r
theorem MEq2.get {L : List Nat} {β : Nat → Nat} {t : List (Nat × Blk)} : ∀ {l : List (Nat × Blk)}, MEq2 L β t l → ∀ k b, lk l k = some b → nin k L = true ∧ ∃ b', lk t k = some b' ∧ (b.live = true → b'.live = true) ∧ ∀ w x, b'.ok β w x → b.ok β w x
  | [], _, _, _, h => by simp [lk] at h
  | (j, x) :: r, ha, k, b, h => by
    simp only [lk] at h
    cases hb : Nat.beq k j with
    | true =>
      obtain rfl := Nat.eq_of_beq_eq_true hb
      rw [hb, cond_true, Option.some.injEq] at h
      subst h; exact ha.1
    | false =>
      rw [hb, cond_false] at h
      exact ha.2.get k b h
theorem Dis.mk2 {α : Type} {nt nb nb' : Nat} {t : List (Nat × SV)} {m : List (Nat × Blk)} {h : World → Prop} {z : Gz} (L : List Nat) {t' : α → List (Nat × SV)} {m' : α → List (Nat × Blk)} {h' : α → World → Prop} {pre : α → Prop}
    (hL : ∀ i ∈ L, ∃ b, lk m i = some b ∧ b.live = true)
    (hx : ∀ β w, (∀ i b, lk m i = some b → b.ok β w (β i)) → h w → ∃ x, pre x ∧ TEq β t (t' x) ∧ MEq2 L β m (m' x) ∧ ∀ w2, h w2 → (∀ i ∈ L, ∀ b, lk m i = some b → b.ok β w2 (β i)) → h' x w2) :
    Dis ⟨nt, t, m, nb, h, z⟩ (fun x => ⟨nt, t' x, m' x, nb', h' x, z⟩) pre := by
  rintro X a w ⟨β, D, hs⟩
  obtain ⟨x, hp, ht, hm, hh⟩ := hx β w hs.m (hs.h w (Chg.refl _ _))
  have hLc : ∀ i ∈ L, ∃ cs ty fr, w.heap[β i]? = some (.cells cs ty fr) := fun i hi => by
    obtain ⟨b, h1, h2⟩ := hL i hi
    exact Blk.ok_cells h2 (hs.m i b h1)
  have hno : ∀ (d : Nat) (o : Obj), w.heap[d]? = some o → Other o → ¬ ∃ i ∈ L, β i = d := by
    rintro d o h1 h2 ⟨i, hi, rfl⟩
    obtain ⟨cs, ty, fr, h3⟩ := hLc i hi
    rw [h1] at h3
    cases h3
    exact h2 _ _ _ rfl
  refine ⟨x, hp, β, fun b => D b ∨ ∃ i ∈ L, β i = b, ?_, hs.size, ?_, ?_, ?_, ?_, ?_, ?_, ?_⟩
  · obtain ⟨l, l1, l2, l3⟩ := hs.defers
    refine ⟨l, l1, l2, fun d hd => ⟨(l3 d hd).1, ?_, (l3 d hd).2.2⟩⟩
    rintro (h1 | h1)
    · exact (l3 d hd).2.1 h1
    · exact hno d _ (l3 d hd).1 (fun _ _ _ h => by cases h) h1
  · intro k s hk
    obtain ⟨s', h1, h2⟩ := ht.get k s hk
    rw [← h2]; exact hs.t k s' h1
  · intro i b hi
    obtain ⟨_, b', h1, _, h2⟩ := hm.get i b hi
    exact h2 _ _ (hs.m i b' h1)
  · intro i j bi bj hi hj h1 h2 hne
    obtain ⟨_, b', hi', l1, _⟩ := hm.get i bi hi
    obtain ⟨_, b2', hj', l2, _⟩ := hm.get j bj hj
    exact hs.inj i j _ _ hi' hj' (l1 h1) (l2 h2) hne
  · intro i b hi hl
    obtain ⟨hn, b', hi', l1, _⟩ := hm.get i b hi
    rintro (h1 | ⟨j, hj, h1⟩)
    · exact hs.out i _ hi' (l1 hl) h1
    · obtain ⟨bj, h2, h3⟩ := hL j hj
      refine hs.inj j i _ _ h2 hi' h3 (l1 hl) (fun e => ?_) h1
      subst e
      exact nin_iff.1 hn hj
  · rintro b (h1 | ⟨j, hj, rfl⟩)
    · exact hs.dlt b h1
    · obtain ⟨cs, ty, fr, h3⟩ := hLc j hj
      exact (Array.getElem?_eq_some_iff.1 h3).1
  · intro w2 hc
    refine hh w2 (hs.h w2 ⟨hc.os, hc.tape, hc.output, hc.size, fun b hb hd => hc.same b hb fun h1 => hd fun h2 => h1 (.inl h2)⟩) fun i hi b hb => ?_
    obtain ⟨cs, ty, fr, h3⟩ := hLc i hi
    exact Blk.keep_at (hc.same _ (Array.getElem?_eq_some_iff.1 h3).1 fun h1 => h1 (.inr ⟨i, hi, rfl⟩)) (hs.m i b hb)
  · refine ⟨hs.amb.g, fun p hp' => ⟨(hs.amb.la p hp').1, ?_⟩, hs.amb.lq, hs.amb.dep, hs.amb.nd, fun d hd => ⟨(hs.amb.pr d hd).1, ?_⟩⟩
    · rintro (h1 | h1)
      · exact (hs.amb.la p hp').2 h1
      · obtain ⟨st, pd, h2⟩ := (hs.amb.la p hp').1
        exact hno _ _ h2 (fun _ _ _ h => by cases h) h1
    · rintro (h1 | h1)
      · exact (hs.amb.pr d hd).2 h1
      · exact hno _ _ (hs.amb.pr d hd).1 (fun _ _ _ h => by cases h) h1
end Go.Proofs.Ytaciigegbgnadaa.Tx
namespace Go.Proofs.Ytaciigegbgnadaa
open Go Tx Go.RowKit
/-- A row that is filled from the left: the first k numbers, zeros behind. -/
def pz (f : Nat → Int) (n k : Nat) : List Int := (List.range n).map fun i => if i < k then f i else 0
theorem pz_len (f : Nat → Int) (n k : Nat) : (pz f n k).length = n := by simp [pz]
theorem pz_at (f : Nat → Int) {n k i : Nat} (h : i < n) : (pz f n k)[i]? = some (if i < k then f i else 0) := rng_at _ h
theorem pz_zero (f : Nat → Int) (n : Nat) : pz f n 0 = List.replicate n 0 := by
  unfold pz
  rw [show (fun i => if i < 0 then f i else 0) = fun _ => (0 : Int) from funext fun i => if_neg (by omega)]
  simp [List.map_const']
theorem pz_set (f : Nat → Int) (n k : Nat) : (pz f n k).set k (f k) = pz f n (k + 1) := by
  apply List.ext_getElem?
  intro i
  rw [List.getElem?_set]
  by_cases hi : i < n
  · by_cases he : k = i
    · subst he
      rw [if_pos rfl, pz_len, if_pos hi, pz_at f hi, if_pos (by omega)]
    · rw [if_neg he, pz_at f hi, pz_at f hi]
      by_cases h : i < k
      · rw [if_pos h, if_pos (by omega)]
      · rw [if_neg h, if_neg (by omega)]
  · have h1 : (pz f n (k + 1))[i]? = none := List.getElem?_eq_none (by rw [pz_len]; omega)
    have h2 : (pz f n k)[i]? = none := List.getElem?_eq_none (by rw [pz_len]; omega)
    rw [h1, h2]
    by_cases he : k = i
    · rw [if_pos he, pz_len, if_neg (by omega)]
    · rw [if_neg he]
theorem pz_skip (f : Nat → Int) (n k : Nat) (h : f k = 0) : pz f n k = pz f n (k + 1) := by
  unfold pz
  refine List.map_congr_left fun i _ => ?_
  by_cases h1 : i < k
  · rw [if_pos h1, if_pos (by omega)]
  · rw [if_neg h1]
    by_cases h2 : i < k + 1
    · rw [if_pos h2, show i = k from by omega, h]
    · rw [if_neg h2]
theorem pz_getD (f : Nat → Int) (n : Nat) (i : Nat) : (pz f n n).getD i 0 = if i < n then f i else 0 := by
  rw [List.getD_eq_getElem?_getD]
  by_cases h : i < n
  · rw [pz_at f h, if_pos h]; rfl
  · rw [List.getElem?_eq_none (by rw [pz_len]; omega), if_neg h]; rfl
theorem st_lo {X Y : List Ld} {l : Ld} {k : Nat} (hk : X.length = k) (v : Int) : ((X ++ l :: Y).flatMap Ld.cs).take (k * 5 + 3) ++ [iv v] ++ ((X ++ l :: Y).flatMap Ld.cs).drop (k * 5 + 3 + [iv v].length) = (X ++ ⟨l.beam, l.at', l.kind, v, l.hi⟩ :: Y).flatMap Ld.cs := by
  have h := len5 X
  rw [hk] at h
  simp only [List.flatMap_append, List.flatMap_cons, List.take_append, List.drop_append, h, List.length_cons, List.length_nil]
  rw [show k * 5 + 3 - k * 5 = 3 from by omega, show k * 5 + 3 + (0 + 1) - k * 5 = 4 from by omega, List.take_of_length_le (by omega), List.drop_eq_nil_of_le (by omega)]
  simp
theorem st_hi {X Y : List Ld} {l : Ld} {k : Nat} (hk : X.length = k) (v : Int) : ((X ++ l :: Y).flatMap Ld.cs).take (k * 5 + 4) ++ [iv v] ++ ((X ++ l :: Y).flatMap Ld.cs).drop (k * 5 + 4 + [iv v].length) = (X ++ ⟨l.beam, l.at', l.kind, l.lo, v⟩ :: Y).flatMap Ld.cs := by
  have h := len5 X
  rw [hk] at h
  simp only [List.flatMap_append, List.flatMap_cons, List.take_append, List.drop_append, h, List.length_cons, List.length_nil]
  rw [show k * 5 + 4 - k * 5 = 4 from by omega, show k * 5 + 4 + (0 + 1) - k * 5 = 5 from by omega, List.take_of_length_le (by omega), List.drop_eq_nil_of_le (by omega)]
  simp
theorem st_len {X Y : List Ld} {l : Ld} {k o : Nat} (hk : X.length = k) (ho : o < 5) (v : Int) : k * 5 + o + [iv v].length ≤ ((X ++ l :: Y).flatMap Ld.cs).length := by
  rw [len5, List.length_append, List.length_cons, hk]
  simp only [List.length_cons, List.length_nil]
  omega
end Go.Proofs.Ytaciigegbgnadaa
