/- A row whose call has made new memory at most and has returned true: its end, whatever its arguments' types; and what reading an argument tells of its cells. -/
import Derived.Test.YthfabodamhdhaaaPk
import Derived.WideKeyArgs
import Derived.ChangeArms
import Derived.WideShapes
import Derived.OpenShut
import Derived.ProofKit
namespace Go.Proofs.Ythfabodamhdhaaa
open Go Go.RowKit Go.ChangeShapes Go.WideShapes
variable {H : Type} {enc : TypeId × Value → H} {P : Program}

def readB (P : Program) (ts : List TypeId) : Bool := ts.all fun t => P.readableRec t && decide (t < P.types.size)

theorem sameAt_below {W W' : World} (hB : Below W.heap.size W W') {p : MemPlace} (h : p.block < W.heap.size) : W.sameAt W' p := by
  cases p with
  | cell b off => exact hB.cell (p := ⟨b, off, none⟩) h
  | map b => exact hB.block b h

theorem trodAll_stays (hl : laidOutB P = true) {W W' : World} {sp : Nat → Bool} : ∀ {ts : List TypeId} {vs : List Value} {ds : List (DataW H)} {ps : List MemPlace}, readB P ts = true →
    DataW.TrodAll enc P W 0 (fun _ => true) true ts vs ds ps → (∀ p ∈ ps, W.sameAt W' p) → (∀ p ∈ ps, sp p.block = true) → DataW.TrodAll enc P W' 0 sp true ts vs ds ps
  | [], [], [], _, _, h, _, _ => h
  | t :: ts, v :: vs, d :: ds, _, hr, h, h1, h2 => by
    obtain ⟨p, q, h3, h4, rfl⟩ := h
    simp only [readB, List.all_cons, Bool.and_eq_true, decide_eq_true_eq] at hr
    exact ⟨p, q, Go.WideElems.Trod_stays hl hr.1.1 hr.1.2 h3 (fun p hp => h1 p (List.mem_append_left _ hp)) (fun p hp => h2 p (List.mem_append_left _ hp)),
      trodAll_stays hl (ts := ts) (by simpa [readB] using hr.2) h4 (fun p hp => h1 p (List.mem_append_right _ hp)) (fun p hp => h2 p (List.mem_append_right _ hp)), rfl⟩

/-- The end of a row: the call has returned true and made new memory at most. -/
theorem row_close {f : Func} {s : ChangeSpec} {apart fresh handsOn again : Bool} {W W' : World} {args : Array Value} {ds : List (DataW H)} {before : List MemPlace} {tb : TypeId}
    (hl : laidOutB P = true) (hts : readB P f.params.toList = true) (hvn : s.vars = []) (hrt : f.resultTypes = #[tb]) (hub : P.underlying tb = some .bool)
    (hB : Below W.heap.size W W') (hW : DataW.Whole enc P f.params.toList s.vars apart W args.toList ds [] before)
    (hfn : s.fn H ds = { results := [.lit (.bool true)], args := ds }) : s.post enc P f apart fresh handsOn again W args (.bool true) W' := by
  have hlt := hW.lt
  obtain ⟨p, q, h1, h2, h3, _, _⟩ := id hW
  have hq : q = [] := by rw [hvn] at h2; exact h2
  refine post_of_below (pa := p) (pv := []) hB hW ?_ ?_ ?_ (by rw [h3, hq]) ?_
  · intro b sp hd
    rw [List.append_nil, hfn, hrt]
    exact trodAll_cons_mk (shut_bool hub _) trodAll_mk0
  · intro sp hsp
    rw [List.append_nil, hfn]
    have hp : ∀ x ∈ p, x ∈ before := fun x hx => by rw [h3]; exact List.mem_append_left _ hx
    exact trodAll_stays hl hts h1 (fun x hx => sameAt_below hB (hlt x (hp x hx))) (fun x hx => hsp x (hp x hx))
  · intro sp _
    rw [List.append_nil, hfn, hvn]
    rfl
  · exact ok_one hrt rfl (okWide_bool_mk hub _)

/-! ### Opening an argument -/
/-- The shape of a type's cells. -/
inductive Shp where
  | int (k : IntKind)
  | bool
  | agg (l : List Shp)
  | sl (sz : Nat) (e : Shp)

mutual
def Shp.size : Shp → Nat
  | .agg l => Shp.sizes l
  | _ => 1
def Shp.sizes : List Shp → Nat
  | [] => 0
  | s :: r => s.size + Shp.sizes r
end

mutual
/-- What is known of the cells of a value of such a shape. -/
def Shp.rd (w : World) : Shp → List Value → Prop
  | .int k, cs => ∃ n, cs = [.int k n] ∧ (Lit.int k n).wf = true
  | .bool, cs => ∃ b, cs = [.bool b]
  | .agg l, cs => Shp.rds w l cs
  | .sl sz e, cs => cs = [.slice none 0 0] ∨ ∃ a n c, cs = [.slice (some a) n c] ∧ n ≤ c ∧ c ≤ maxLen ∧ ∀ i, i < n → ∃ es : List Value, es.length = sz ∧ (∀ j v, es[j]? = some v → w.cell? ((a.add (i * sz)).add j) = some v) ∧ Shp.rd w e es
def Shp.rds (w : World) : List Shp → List Value → Prop
  | [], cs => cs = []
  | s :: r, cs => ∃ a b, cs = a ++ b ∧ Shp.rd w s a ∧ Shp.rds w r b
end

mutual
def Shp.fits (P : Program) : Nat → Shp → TypeId → Bool
  | 0, _, _ => false
  | fuel + 1, s, t => match s, P.underlying t with
    | .int k, some (.int k') => decide (k = k')
    | .bool, some .bool => true
    | .sl sz e, some (.slice t') => Nat.beq (P.cellsOf t') sz && Shp.fits P fuel e t'
    | .agg l, some (.struct fs) => Nat.beq (P.cellsOf t) (Shp.sizes l) && Shp.fitsF P fuel l (fs.toList.map fun f => (f.offset, f.type)) 0
    | .agg l, some (.array n e) => Nat.beq (P.cellsOf t) (Shp.sizes l) && Shp.fitsF P fuel l ((List.range n).map fun i => (i * P.cellsOf e, e)) 0
    | _, _ => false
def Shp.fitsF (P : Program) : Nat → List Shp → List (Nat × TypeId) → Nat → Bool
  | 0, _, _, _ => false
  | _ + 1, [], [], _ => true
  | fuel + 1, s :: r, (o, t) :: fs, off => Nat.beq o off && Nat.beq (P.cellsOf t) s.size && Shp.fits P fuel s t && Shp.fitsF P fuel r fs (off + s.size)
  | _, _, _, _ => false
end

theorem Shp.fits_rd (W : World) : ∀ (fuel : Nat),
    (∀ (s : Shp) (t : TypeId) (n : Nat) (cs : List Value) (x : DataW H × List MemPlace), Shp.fits P fuel s t = true → DataW.trod enc P W 0 (fun _ => true) true n t cs = some x → Shp.rd W s cs) ∧
    (∀ (l : List Shp) (fs : List (Nat × TypeId)) (off n : Nat) (cs : List Value), Shp.fitsF P fuel l fs off = true → cs.length = off + Shp.sizes l →
      (∀ (i : Nat) (o : Nat) (t : TypeId), fs[i]? = some (o, t) → ∃ x, DataW.trod enc P W 0 (fun _ => true) true n t ((cs.drop o).take (P.cellsOf t)) = some x) → Shp.rds W l (cs.drop off)) := by
  intro fuel
  induction fuel with
  | zero => exact ⟨fun s t n cs x h => by simp [Shp.fits] at h, fun l fs off n cs h => by simp [Shp.fitsF] at h⟩
  | succ fuel ih =>
    refine ⟨fun s t n cs x h hd => ?_, fun l fs off n cs h hlen hf => ?_⟩
    · unfold Shp.fits at h
      split at h
      · rename_i k k' hu
        have hk := of_decide_eq_true h
        subst hk
        obtain ⟨m, h1, h2, h3⟩ := DataW.trod_int hu hd
        exact ⟨m, h1, h3⟩
      · rename_i hu
        obtain ⟨b, h1, _⟩ := DataW.trod_bool hu hd
        exact ⟨b, h1⟩
      · rename_i sz e t' hu
        simp only [Bool.and_eq_true] at h
        have hsz := Nat.eq_of_beq_eq_true h.1
        rcases DataW.trod_slice hu hd with ⟨h1, _⟩ | ⟨a, len, cap, elems, rest, m, _, h1, _, _, h2, h3, h4, h5, _, _⟩
        · exact .inl h1
        · refine .inr ⟨a, len, cap, h1, h2, h3, fun i hi => ?_⟩
          have h6 := h5 i hi
          rw [List.getElem?_eq_getElem (by omega), Option.bind_eq_some_iff] at h6
          obtain ⟨es, h7, h8⟩ := h6
          rw [hsz] at h7
          obtain ⟨_, h9, h10⟩ := World.cells?_some h7
          refine ⟨es, h9, fun j v hv => ?_, ih.1 e t' _ _ _ h.2 h8⟩
          rw [h10 j (by rw [← h9]; exact (List.getElem?_eq_some_iff.1 hv).1), hv]
      · rename_i l fs hu
        simp only [Bool.and_eq_true] at h
        have hsz := Nat.eq_of_beq_eq_true h.1
        obtain ⟨xs, m, _, _, h1, h2, h3⟩ := DataW.trod_struct hu hd
        have := ih.2 l _ 0 m cs h.2 (by omega) (fun i o t' ho => by
          rw [List.getElem?_map, Option.map_eq_some_iff] at ho
          obtain ⟨f, hf, he⟩ := ho
          simp only [Prod.mk.injEq] at he
          obtain ⟨rfl, rfl⟩ := he
          have hf' : fs[i]? = some f := by simpa using hf
          rw [h3 i f hf']
          exact ⟨_, List.getElem?_eq_getElem (by rw [h2]; exact (Array.getElem?_eq_some_iff.1 hf').1)⟩)
        simpa [Shp.rd] using this
      · rename_i l m e hu
        simp only [Bool.and_eq_true] at h
        have hsz := Nat.eq_of_beq_eq_true h.1
        cases n with
        | zero => simp [DataW.trod] at hd
        | succ n =>
          unfold DataW.trod at hd
          rw [hu] at hd
          simp only [] at hd
          split at hd
          case isFalse => cases hd
          rename_i hlen
          rw [Option.map_eq_some_iff] at hd
          obtain ⟨ys, h1, _⟩ := hd
          have := ih.2 l _ 0 n cs h.2 (by omega) (fun i o t' ho => by
            rw [List.getElem?_map, Option.map_eq_some_iff] at ho
            obtain ⟨j, hj, he⟩ := ho
            simp only [Prod.mk.injEq] at he
            obtain ⟨rfl, rfl⟩ := he
            have h2 := mapM_some_get h1 i j hj
            have h3 := mapM_some_length h1
            rw [h2]
            exact ⟨_, List.getElem?_eq_getElem (by rw [h3]; exact (List.getElem?_eq_some_iff.1 hj).1)⟩)
          simpa [Shp.rd] using this
      · cases h
    · match l, fs, h with
      | [], [], _ =>
        simp only [Shp.rds]
        apply List.eq_nil_of_length_eq_zero
        simp only [Shp.sizes, List.length_drop] at *
        omega
      | s :: r, (o, t) :: fs, h =>
        simp only [Shp.fitsF, Bool.and_eq_true] at h
        obtain ⟨⟨⟨h1, h2⟩, h3⟩, h4⟩ := h
        have h1 := Nat.eq_of_beq_eq_true h1
        have h2 := Nat.eq_of_beq_eq_true h2
        subst h1
        simp only [Shp.sizes] at hlen
        obtain ⟨x, hx⟩ := hf 0 o t rfl
        refine ⟨(cs.drop o).take s.size, (cs.drop o).drop s.size, (List.take_append_drop _ _).symm, ?_, ?_⟩
        · rw [h2] at hx
          exact ih.1 s t _ _ _ h3 hx
        · rw [List.drop_drop]
          exact ih.2 r fs _ n cs h4 (by omega) (fun i o' t' ho => hf (i + 1) o' t' (by simpa using ho))
      | [], _ :: _, h => simp [Shp.fitsF] at h
      | _ :: _, [], h => simp [Shp.fitsF] at h

def isSt (P : Program) (t : TypeId) : Bool := match P.underlying t with | some (.struct _) => true | _ => false
def isAr (P : Program) (t : TypeId) : Bool := match P.underlying t with | some (.array _ _) => true | _ => false
def isSl (P : Program) (t : TypeId) : Bool := match P.underlying t with | some (.slice _) => true | _ => false
theorem isSt_spec {t : TypeId} (h : isSt P t = true) : ∃ fs, P.underlying t = some (.struct fs) := by
  unfold isSt at h; split at h
  · exact ⟨_, ‹_›⟩
  · cases h
theorem isAr_spec {t : TypeId} (h : isAr P t = true) : ∃ m e, P.underlying t = some (.array m e) := by
  unfold isAr at h; split at h
  · exact ⟨_, _, ‹_›⟩
  · cases h
theorem isSl_spec {t : TypeId} (h : isSl P t = true) : ∃ e, P.underlying t = some (.slice e) := by
  unfold isSl at h; split at h
  · exact ⟨_, ‹_›⟩
  · cases h

theorem open_agg {r : Reach} {b0 : Nat} {w : World} {t : TypeId} {v : Value} {d : DataW H} {p : List MemPlace} (s : Shp) (hu : isSt P t = true) (hf : Shp.fits P 20 s t = true)
    (hv : Value.okWide P w r b0 t v) (h : DataW.Trod enc P w 0 (fun _ => true) true t v d p) : ∃ cs : List Value, v = .agg cs.toArray ∧ s.rd w cs := by
  obtain ⟨fs, hu⟩ := isSt_spec hu
  obtain ⟨cs, rfl, _⟩ := okWide_struct hu hv
  obtain ⟨n, hn⟩ := h
  refine ⟨cs.toList, by simp, (Shp.fits_rd w 20).1 s t n _ _ hf hn⟩
theorem open_arr {r : Reach} {b0 : Nat} {w : World} {t : TypeId} {v : Value} {d : DataW H} {p : List MemPlace} (s : Shp) (hu : isAr P t = true) (hf : Shp.fits P 20 s t = true)
    (hv : Value.okWide P w r b0 t v) (h : DataW.Trod enc P w 0 (fun _ => true) true t v d p) : ∃ cs : List Value, v = .agg cs.toArray ∧ s.rd w cs := by
  obtain ⟨m, e, hu⟩ := isAr_spec hu
  obtain ⟨cs, rfl, _⟩ : ∃ cs, v = .agg cs ∧ cs.size = P.cellsOf t := by
    unfold Value.okWide at hv
    rw [hu] at hv
    obtain ⟨cs, h1, h2, _⟩ := hv
    exact ⟨cs, h1, h2⟩
  obtain ⟨n, hn⟩ := h
  refine ⟨cs.toList, by simp, (Shp.fits_rd w 20).1 s t n _ _ hf hn⟩
theorem open_slc {r : Reach} {b0 : Nat} {w : World} {t : TypeId} {v : Value} {d : DataW H} {p : List MemPlace} (s : Shp) (hu : isSl P t = true) (hf : Shp.fits P 20 s t = true)
    (hv : Value.okWide P w r b0 t v) (h : DataW.Trod enc P w 0 (fun _ => true) true t v d p) : s.rd w [v] := by
  obtain ⟨e, hu⟩ := isSl_spec hu
  obtain ⟨a, len, cap, rfl⟩ := okWide_slice hu hv
  obtain ⟨n, hn⟩ := h
  exact (Shp.fits_rd w 20).1 s t n _ _ hf hn
theorem open_boo {r : Reach} {b0 : Nat} {w : World} {t : TypeId} {v : Value} {d : DataW H} {p : List MemPlace} (hu : P.underlying t = some .bool)
    (hv : Value.okWide P w r b0 t v) (_ : DataW.Trod enc P w 0 (fun _ => true) true t v d p) : ∃ b, v = .bool b := by
  unfold Value.okWide at hv
  rw [hu] at hv
  simp only [Cell.okWide, hu, Cell.ok] at hv
  split at hv <;> first | exact hv.elim | simp_all | skip
  all_goals
    split at hv <;> first | exact hv.elim | simp_all

/-- From each element to the list of all. -/
theorem list_of {α : Type} {Q : Nat → α → Prop} : ∀ (n : Nat), (∀ i, i < n → ∃ x, Q i x) → ∃ l : List α, l.length = n ∧ ∀ i x, l[i]? = some x → Q i x
  | 0, _ => ⟨[], rfl, fun i x h => by simp at h⟩
  | n + 1, h => by
    obtain ⟨l, h1, h2⟩ := list_of n fun i hi => h i (by omega)
    obtain ⟨x, hx⟩ := h n (by omega)
    refine ⟨l ++ [x], by simp [h1], fun i y hy => ?_⟩
    rw [List.getElem?_append] at hy
    split at hy
    · exact h2 i y hy
    · rename_i hge
      have : i = n := by
        have := (List.getElem?_eq_some_iff.1 hy).1
        simp at this; omega
      subst this
      rw [h1, Nat.sub_self] at hy
      simp only [List.getElem?_cons_zero, Option.some.injEq] at hy
      subst hy; exact hx

theorem wf64 {a : Int} (h : (Lit.int .i64 a).wf = true) : -9223372036854775808 ≤ a ∧ a ≤ 9223372036854775807 := by
  simp [Lit.wf, IntKind.min, IntKind.max, IntKind.bits, IntKind.signed] at h; omega
theorem wf16 {a : Int} (h : (Lit.int .u16 a).wf = true) : 0 ≤ a ∧ a ≤ 65535 := by
  simp [Lit.wf, IntKind.min, IntKind.max, IntKind.bits, IntKind.signed] at h; omega
theorem wf8 {a : Int} (h : (Lit.int .u8 a).wf = true) : 0 ≤ a ∧ a ≤ 255 := by
  simp [Lit.wf, IntKind.min, IntKind.max, IntKind.bits, IntKind.signed] at h; omega
end Go.Proofs.Ythfabodamhdhaaa
