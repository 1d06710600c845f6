/- SchoolAdds: a course in new memory, in which all hours are made to count 1000. -/
import Derived.Test.YtpleibfohjbneaaGreatS5
import Derived.Test.YtpleibfohjbneaaGreatSW
namespace Go.Proofs.YtpleibfohjbneaaGreat
open Go Tx Go.RowKit
set_option linter.unusedSimpArgs false
set_option linter.unusedVariables false

theorem slHiI {P : Program} (T : Env P) {dst : Option Tmp} {ty : TypeId} {pos : String} {after : Array Edge} {gd : Option (Nat × Bool)} {gs : List Nat} {σ : Sg} {K : Ef → Prop} {KF : Option KT} {t e n c : Nat} {zi : Int} (z : Nat) {x hi : Operand} {ad : Addr} {k : IntKind}
    {sz : Nat} {zr : List Value} {by_ : Nat} {ti : TI} (hx : gv σ x = some (.v (.slice (some ad) n c))) (hl : gv σ hi = some (.v (.int k zi))) (hzi : zi = z) (ht : T.ty t = some ⟨sz, zr, by_, .slice e⟩) (he : T.ty e = some ti) (hc : z ≤ c)
    (hB : efB σ ⟨.v (.slice (some ad) z c), [], [], gs ++ (os x ++ os hi), []⟩ = true) (hK : K ⟨.v (.slice (some ad) z c), [], [], gs ++ (os x ++ os hi), []⟩) : OpEvS P ⟨dst, .slice t x none (some hi) none, ty, pos, after, gd⟩ gs σ K KF := by
  subst hzi
  exact slHi T hx hl ht he hc hB hK
theorem Lq.lt {n : Nat} {L : List Int} {q : Addr × Nat} {w : World} (h : Lq n L q w) (h1 : 1 ≤ n) : q.1.block < w.heap.size := by
  obtain ⟨e, ad, h2, h3⟩ := Rd.ptr h h1
  simp only [Option.some.injEq] at h2
  subst h2
  obtain ⟨a, ha⟩ : ∃ a, L[0]? = some a := ⟨_, List.getElem?_eq_getElem (by omega)⟩
  have := h3 0 a ha 0 (iv a) rfl
  unfold World.cell? at this
  cases ho : w.heap[((q.1.add (0 * 1)).add 0).block]? with
  | none => simp [ho] at this
  | some o => exact (Array.getElem?_eq_some_iff.1 ho).1
/-- The blocks that are to be left alone. -/
def avS (w : World) (u : (Addr × Nat) × (Addr × Nat)) (v : Addr × Nat) (x : (Addr × Nat) × (Addr × Nat)) (b : Nat) : Prop := b < w.heap.size ∨ b = u.1.1.block ∨ b = u.2.1.block ∨ b = v.1.block ∨ b = x.1.1.block ∨ b = x.2.1.block
abbrev hS6 (n : Nat) (w : World) (A1 B1 A3 A4 B4 : List Int) (u : (Addr × Nat) × (Addr × Nat)) (v : Addr × Nat) (x : (Addr × Nat) × (Addr × Nat)) (w2 : World) : Prop := ((Below w.heap.size w w2 ∧ Lq n A1 u.1 w2 ∧ Lq n B1 u.2 w2) ∧ Lq n A3 v w2) ∧ Lq n A4 x.1 w2 ∧ Lq n B4 x.2 w2
theorem av_lt {n : Nat} {w w2 : World} {A1 B1 A3 A4 B4 : List Int} {u : (Addr × Nat) × (Addr × Nat)} {v : Addr × Nat} {x : (Addr × Nat) × (Addr × Nat)} (h : hS6 n w A1 B1 A3 A4 B4 u v x w2) (h1 : 1 ≤ n) (b : Nat) (hb : avS w u v x b) : b < w2.heap.size := by
  rcases hb with hb | rfl | rfl | rfl | rfl | rfl
  · exact Nat.lt_of_lt_of_le hb h.1.1.1.size
  · exact h.1.1.2.1.lt h1
  · exact h.1.1.2.2.lt h1
  · exact h.1.2.lt h1
  · exact h.2.1.lt h1
  · exact h.2.2.lt h1
/-- Counts, of which those before a place are 1000. -/
def kIJ (CC : List (List Int)) (i j : Nat) : List (List Int) := CC.mapIdx fun p l => l.mapIdx fun q n => if p < i ∨ (p = i ∧ q < j) then 1000 else n
theorem kIJ_zero (CC : List (List Int)) : kIJ CC 0 0 = CC := by
  refine List.ext_getElem? fun p => ?_
  rw [kIJ, List.getElem?_mapIdx]
  cases CC[p]? with
  | none => rfl
  | some l =>
    simp only [Option.map_some, Option.some.injEq]
    refine List.ext_getElem? fun q => ?_
    rw [List.getElem?_mapIdx]
    cases l[q]? with
    | none => rfl
    | some n => simp
theorem kIJ_next {CC : List (List Int)} {i n : Nat} (h : ∀ l ∈ CC, l.length = n) : kIJ CC i n = kIJ CC (i + 1) 0 := by
  refine List.ext_getElem? fun p => ?_
  rw [kIJ, kIJ, List.getElem?_mapIdx, List.getElem?_mapIdx]
  cases hp : CC[p]? with
  | none => rfl
  | some l =>
    have hl := h l (List.mem_of_getElem? hp)
    simp only [Option.map_some, Option.some.injEq]
    refine List.ext_getElem? fun q => ?_
    rw [List.getElem?_mapIdx, List.getElem?_mapIdx]
    cases hq : l[q]? with
    | none => rfl
    | some n' =>
      have : q < l.length := (List.getElem?_eq_some_iff.1 hq).1
      simp only [Option.map_some, Option.some.injEq]
      by_cases h1 : p < i ∨ (p = i ∧ q < n)
      · rw [if_pos h1, if_pos (by omega)]
      · rw [if_neg h1, if_neg (by omega)]
theorem kIJ_full {CC : List (List Int)} : kIJ CC CC.length 0 = kCC CC := by
  refine List.ext_getElem? fun p => ?_
  rw [kIJ, kCC, List.getElem?_mapIdx, List.getElem?_map]
  cases hp : CC[p]? with
  | none => rfl
  | some l =>
    have hpl : p < CC.length := (List.getElem?_eq_some_iff.1 hp).1
    simp only [Option.map_some, Option.some.injEq]
    refine List.ext_getElem? fun q => ?_
    rw [List.getElem?_mapIdx, List.getElem?_map]
    cases hq : l[q]? with
    | none => rfl
    | some n' => simp [hpl]
theorem kIJ_other {CC : List (List Int)} {i j p : Nat} (h : p ≠ i) : (kIJ CC i (j + 1))[p]? = (kIJ CC i j)[p]? := by
  rw [kIJ, kIJ, List.getElem?_mapIdx, List.getElem?_mapIdx]
  cases hp : CC[p]? with
  | none => rfl
  | some l =>
    simp only [Option.map_some, Option.some.injEq]
    refine List.ext_getElem? fun q => ?_
    rw [List.getElem?_mapIdx, List.getElem?_mapIdx]
    cases hq : l[q]? with
    | none => rfl
    | some n' => simp [h]
theorem kIJ_same {CC : List (List Int)} {i j : Nat} {xs : List Int} (h : (kIJ CC i j)[i]? = some xs) : (kIJ CC i (j + 1))[i]? = some (xs.set j 1000) := by
  rw [kIJ, List.getElem?_mapIdx] at h
  rw [kIJ, List.getElem?_mapIdx]
  cases hp : CC[i]? with
  | none => rw [hp] at h; cases h
  | some l =>
    rw [hp] at h
    simp only [Option.map_some, Option.some.injEq] at h ⊢
    subst h
    refine List.ext_getElem? fun q => ?_
    rw [List.getElem?_mapIdx, List.getElem?_set]
    simp only [List.length_mapIdx, List.getElem?_mapIdx]
    cases hq : l[q]? with
    | none =>
      have := List.getElem?_eq_none_iff.1 hq
      by_cases hjq : j = q
      · subst hjq; simp; omega
      · simp [hjq]
    | some n' =>
      have hlt : q < l.length := (List.getElem?_eq_some_iff.1 hq).1
      by_cases hjq : j = q
      · subst hjq; simp [hlt]
      · simp only [Option.map_some, hjq, if_false, Option.some.injEq]
        by_cases h1 : q < j
        · simp [h1, show q < j + 1 from by omega]
        · simp [h1, show ¬ q < j + 1 from by omega]
theorem kIJ_len (CC : List (List Int)) (i j : Nat) : (kIJ CC i j).length = CC.length := by simp [kIJ]
/-- Rows of their own that say CC, but for those that have been written. -/
def RwG.At {CC : List (List Int)} (av : Nat → Prop) (y : RwG CC) (C2 : List (List Int)) (w : World) : Prop := (Rd 1 Rw.cs (.slice (some y.o) y.D.length y.c) (y.D.map Ro.rw) w ∧ ∀ (p : Nat) (r : Ro) (xs : List Int), y.D[p]? = some r → C2[p]? = some xs → xs.length = r.xs.length ∧ (⟨r.b, r.c, xs⟩ : Ro).In w) ∧ ((y.D.map Ro.b).Nodup ∧ ∀ r ∈ y.D, ¬ av r.b) ∧ ∀ r ∈ y.D, r.b ≠ y.o.block
theorem RwG.In.at {CC : List (List Int)} {av : Nat → Prop} {y : RwG CC} {w : World} (h : y.In av w) : y.At av CC w := ⟨⟨h.1.1, fun p r xs hr hx => by
    have hh := y.h
    have : (y.D.map Ro.xs)[p]? = some r.xs := by rw [List.getElem?_map, hr]; rfl
    rw [hh, hx, Option.some.injEq] at this
    subst this
    exact ⟨rfl, h.1.2 r (List.mem_of_getElem? hr)⟩⟩, h.2⟩
theorem blk_add (a : Addr) (i : Nat) : (a.add i).block = a.block := by unfold Addr.add; split <;> rfl
theorem rd_set {α : Type} {sz : Nat} {f : α → List Value} {a : Addr} {n c : Nat} {bs : List α} {w : World} (h : Rd sz f (.slice (some a) n c) bs w) {ad : Addr} {v : Value} (hne : a.block ≠ ad.block) : Rd sz f (.slice (some a) n c) bs (w.setCell ad v) := by
  rcases h with ⟨h, _⟩ | ⟨a', c', h1, h2⟩
  · cases h
  · refine .inr ⟨a', c', h1, fun k b hk j u hu => ?_⟩
    simp only [Value.slice.injEq, Option.some.injEq] at h1
    obtain ⟨rfl, _⟩ := h1
    have := h2 k b hk j u hu
    unfold World.cell? at this ⊢
    rw [setCell_other (show ((a.add (k * sz)).add j).block ≠ ad.block from by rw [blk_add, blk_add]; exact hne)]
    exact this
theorem below_set {n : Nat} {w w2 : World} {ad : Addr} {v : Value} (h : Below n w w2) (hn : n ≤ ad.block) : Below n w (w2.setCell ad v) := by
  have h3 : (w2.setCell ad v).heap.size = w2.heap.size := setCell_size
  refine ⟨h.os, h.tape, h.output, by rw [h3]; exact h.size, fun b hb => ?_⟩
  rw [setCell_other (by omega)]
  exact h.block b hb
/-- Nothing that is to be left alone lies in the rows; a store into a row. -/
theorem crK_set {CC : List (List Int)} {n i j : Nat} {w w2 : World} {N A1 B1 A3 A4 B4 : List Int} {u : (Addr × Nat) × (Addr × Nat)} {v : Addr × Nat} {x : (Addr × Nat) × (Addr × Nat)} {y : (Nat × Nat) × RwG CC} {r : Ro} {a : Addr}
    (h : hS6 n w A1 B1 A3 A4 B4 u v x w2 ∧ Ro.In ⟨y.1.1, y.1.2, N⟩ w2 ∧ y.2.At (fun b => avS w u v x b ∨ b = y.1.1) (kIJ CC i j) w2) (hr : y.2.D[i]? = some r) (ha : a = ⟨r.b, j, none⟩) :
    hS6 n w A1 B1 A3 A4 B4 u v x (w2.setCell a (iv 1000)) ∧ Ro.In ⟨y.1.1, y.1.2, N⟩ (w2.setCell a (iv 1000)) ∧ y.2.At (fun b => avS w u v x b ∨ b = y.1.1) (kIJ CC i (j + 1)) (w2.setCell a (iv 1000)) := by
  subst ha
  obtain ⟨h1, h2, ⟨⟨h3, h4⟩, ⟨h5, h6⟩, h7⟩⟩ := h
  have hm := List.mem_of_getElem? hr
  have ha := h6 r hm
  have hav : ∀ b, avS w u v x b → b ≠ r.b := fun b hb e => ha (.inl (e ▸ hb))
  have hne : y.1.1 ≠ r.b := fun e => ha (.inr e.symm)
  refine ⟨⟨⟨⟨below_set h1.1.1.1 (Nat.le_of_not_lt fun hlt => ha (.inl (.inl hlt))), rd_set h1.1.1.2.1 (hav _ (.inr (.inl rfl))), rd_set h1.1.1.2.2 (hav _ (.inr (.inr (.inl rfl))))⟩, rd_set h1.1.2 (hav _ (.inr (.inr (.inr (.inl rfl)))))⟩,
    rd_set h1.2.1 (hav _ (.inr (.inr (.inr (.inr (.inl rfl)))))), rd_set h1.2.2 (hav _ (.inr (.inr (.inr (.inr (.inr rfl))))))⟩, ownsRow_setCell_other h2 (by simp only [Value.ownBlock, ne_eq, Option.some.injEq]; exact hne) _,
    ⟨rd_set h3 (h7 r hm).symm, fun p q xs hq hx => ?_⟩, ⟨h5, h6⟩, h7⟩
  by_cases hp : p = i
  · subst hp
    rw [hr, Option.some.injEq] at hq
    subst hq
    cases hk : (kIJ CC p j)[p]? with
    | none =>
      have e := congrArg List.length (show kIJ CC p j = kIJ CC p j from rfl)
      rw [List.getElem?_eq_none_iff] at hk
      have := (List.getElem?_eq_some_iff.1 hx).1
      rw [kIJ_len] at hk this
      omega
    | some xs0 =>
      rw [kIJ_same hk, Option.some.injEq] at hx
      subst hx
      obtain ⟨q1, q2⟩ := h4 p r xs0 hr hk
      refine ⟨by rw [List.length_set]; exact q1, ?_⟩
      have := (World.ownsRow.stored q2 j (iv 1000)).1
      by_cases hj : j < xs0.length
      · have e : (xs0.flatMap iF).set j (iv 1000) = (xs0.set j 1000).flatMap iF := by
          rw [← setF hj, List.set_eq_take_append_cons_drop, if_pos (by rw [lenF]; exact hj)]; rfl
        rw [e] at this
        simp only [Ro.In, Ro.ad, List.length_set]
        exact this
      · have e : (xs0.flatMap iF).set j (iv 1000) = xs0.flatMap iF := List.set_eq_of_length_le (by rw [lenF]; omega)
        rw [e] at this
        rw [List.set_eq_of_length_le (by omega)]
        exact this
  · rw [kIJ_other hp] at hx
    obtain ⟨q1, q2⟩ := h4 p q xs hq hx
    refine ⟨q1, ownsRow_setCell_other q2 ?_ _⟩
    simp only [Value.ownBlock, ne_eq, Option.some.injEq]
    intro e
    have e1 : (y.2.D.map Ro.b)[p]? = some q.b := by rw [List.getElem?_map, hq]; rfl
    have e2 : (y.2.D.map Ro.b)[i]? = some r.b := by rw [List.getElem?_map, hr]; rfl
    have e : q.b = r.b := e
    rw [e] at e1
    have l1 := (List.getElem?_eq_some_iff.1 e1).1
    exact hp ((List.getElem?_inj l1 h5).1 (e1.trans e2.symm))
/-- Where a row may be written. -/
theorem crK_at {CC : List (List Int)} {n i j : Nat} {w w2 : World} {N A1 B1 A3 A4 B4 : List Int} {u : (Addr × Nat) × (Addr × Nat)} {v : Addr × Nat} {x : (Addr × Nat) × (Addr × Nat)} {y : (Nat × Nat) × RwG CC} {r : Ro} {a : Addr}
    (h : hS6 n w A1 B1 A3 A4 B4 u v x w2 ∧ Ro.In ⟨y.1.1, y.1.2, N⟩ w2 ∧ y.2.At (fun b => avS w u v x b ∨ b = y.1.1) (kIJ CC i j) w2) (hr : y.2.D[i]? = some r) (hi : i < CC.length) (hj : j < r.xs.length) (ha : a = ⟨r.b, j, none⟩) :
    (∃ cs ty fr, w2.heap[a.block]? = some (.cells cs ty fr) ∧ a.off < cs.size) ∧ w2.frozen? a = false := by
  subst ha
  obtain ⟨xs0, hk⟩ : ∃ xs0, (kIJ CC i j)[i]? = some xs0 := ⟨_, List.getElem?_eq_getElem (by rw [kIJ_len]; exact hi)⟩
  obtain ⟨q1, q2⟩ := h.2.2.1.2 i r xs0 hr hk
  have q3 := q2
  obtain ⟨e1, (⟨h1, _⟩ | ⟨g, cap, cur, h1, _, h2, h3, _, h4, h5⟩)⟩ := q3
  · cases h1
  · simp only [Value.slice.injEq, Option.some.injEq, Addr.mk.injEq] at h1
    obtain ⟨⟨rfl, _⟩, _⟩ := h1
    refine ⟨⟨cur, _, _, h2, ?_⟩, World.ownsRow.frozenAt q2 j⟩
    show j < cur.size
    have h3 : xs0.length ≤ _ := h3
    omega
end Go.Proofs.YtpleibfohjbneaaGreat
