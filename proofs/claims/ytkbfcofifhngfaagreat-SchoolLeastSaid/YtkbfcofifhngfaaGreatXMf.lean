/- Part 6 of the proof: texts merged. -/
import Derived.Test.YtkbfcofifhngfaaGreatXMe
namespace Go.Proofs.YtkbfcofifhngfaaGreat.Tx
open Go Go.RowKit
noncomputable section
set_option linter.unusedVariables false
set_option linter.unusedSimpArgs false
set_option linter.unusedSectionVars false
def semP (P : Program) {α : Type} : Sem α → Option α
 | .pure a => some a
 | .program k => semP P (k P)
 | _ => none
theorem semP_ok {P : Program} {α : Type} : ∀ (s : Sem α) (v : α), semP P s = some v → ∀ w, s.run P w = .ok v w
 | .pure a, v, h, w => by simp only [semP, Option.some.injEq] at h; subst h; rfl
 | .program k, v, h, w => by simp only [semP] at h; exact semP_ok (k P) v h w
 | .load .., _, h, _ => by cases h
 | .store .., _, h, _ => by cases h
 | .new .., _, h, _ => by cases h
 | .shape .., _, h, _ => by cases h
 | .freeze .., _, h, _ => by cases h
 | .frozen .., _, h, _ => by cases h
 | .getObj .., _, h, _ => by cases h
 | .setObj .., _, h, _ => by cases h
 | .choose .., _, h, _ => by cases h
 | .sys .., _, h, _ => by cases h
 | .mark .., _, h, _ => by cases h
 | .halt .., _, h, _ => by cases h
structure Ty (P : Program) where
 f : Nat → Option TI
 sp : Sem Value → Option Value
 ok : ∀ s v, sp s = some v → ∀ w, s.run P w = .ok v w
instance {P : Program} : CoeFun (Ty P) (fun _ => Nat → Option TI) := ⟨Ty.f⟩
def forceW : Value → Option EV
 | .int k z => mkI k z
 | .bool b => mkB b
 | v => some (.v v)
theorem forceW_eq (v : Value) : forceW v = some (.v v) := by
 cases v <;> simp only [forceW, mkI_eq, mkB_eq]
def nonNil : EV → Bool
 | .sl _ _ _ _ => true
 | .os _ _ _ => true
 | _ => false
def isNilS : EV → Bool
 | .v (.slice none 0 0) => true
 | _ => false
def oBin {P : Program} (ty : Ty P) (op : BinOp) (t : TypeId) (x y : Operand) (gs : List Nat) (s : Es) : Option EE :=
 match oBinOp op x y gs s with
 | some E => some E
 | none => match egv s x, egv s y with
  | some (.v a), some (.v b) => (match ty.sp (do eqGuard op t x y a b; binOp op t a b) with
   | some v => (match forceW v with
    | some v => some ⟨v, [], [], gs ++ (os x ++ os y), []⟩
    | none => none)
   | none => none)
  | some a, some b => (match ty.f t with
   | some ⟨_, _, _, .slice _⟩ => bif (nonNil a && isNilS b) || (isNilS a && nonNil b) then (match op with
    | .eql => some ⟨.v (.bool false), [], [], gs ++ (os x ++ os y), []⟩
    | .neq => some ⟨.v (.bool true), [], [], gs ++ (os x ++ os y), []⟩
    | _ => none) else none
   | _ => none)
  | _, _ => none
theorem nonNil_c {a : EV} (h : nonNil a = true) (L : Nat → Nat) (β : Nat → Nat) : ∃ ad n c, (a.re L).c β = .slice (some ad) n c := by
 cases a <;> first | exact ⟨_, _, _, rfl⟩ | cases h
theorem isNilS_c {a : EV} (h : isNilS a = true) (L : Nat → Nat) (β : Nat → Nat) : (a.re L).c β = .slice none 0 0 := by
 unfold isNilS at h
 split at h
 · rfl
 · cases h
theorem good_bin {P : Program} (T : Env P) {ty : Ty P} (hty : ∀ k ti, ty.f k = some ti → T.ty k = some ti) {F : Fence} {n : Nat} {ops : Array Oper} {dst : Option Tmp} {typ : TypeId} {pos : String} {after : Array Edge} {gd : Option (Nat × Bool)} {gs : List Nat} {σ : Sg} {L : Nat → Nat} {s : Es} {E : EE}
 (hF : Wd F) (hok : σ.Ok) (hR : Rel L s σ) {op : BinOp} {t t' : TypeId} {x y : Operand} (hg : Gd ops ⟨dst, .binOp op t x y t', typ, pos, after, gd⟩ gs σ) (h : oBin ty op t x y gs s = some E) : GoodE F n P ops ⟨dst, .binOp op t x y t', typ, pos, after, gd⟩ σ (E.re L) := by
 unfold oBin at h
 split at h
 · rename_i E' hE
   simp only [Option.some.injEq] at h
   subst h
   exact good_binOp T hF hok hR hg hE
 · split at h
   · rename_i a b hx hy
     split at h
     · rename_i v hv
       rw [forceW_eq] at h
       simp only [Option.some.injEq] at h
       subst h
       refine GoodE.run hF hok hg (efOK_pure rfl) (fun k hk => by simp [EE.re, hk]) rfl (runOK_pure fun β a' w hs => ?_)
       have e1 := gv_eval hs (egv_gv hR hx) (fun k hk => by simp [hk])
       have e2 := gv_eval hs (egv_gv hR hy) (fun k hk => by simp [hk])
       have e3 := ty.ok _ _ hv w
       simp only [EV.re, SV.c] at e1 e2
       simp only [execOp, e1, e2, EV.re, SV.c]
       rw [Sem.run_bind, e3]; rfl
     · cases h
   · rename_i a b hne0 hx hy
     split at h
     · rename_i _ _ _ e ht
       cases hc : (nonNil a && isNilS b) || (isNilS a && nonNil b) with
       | false => rw [hc] at h; cases h
       | true =>
        rw [hc, cond_true] at h
        have hu := under_slice (T.tok t _ (hty _ _ ht)) rfl
        have key : ∀ (β : Nat → Nat) (w : World), (Op.equal t ((a.re L).c β) ((b.re L).c β)).run P w = .ok false w ∧ (∀ op', (eqGuard op' t x y ((a.re L).c β) ((b.re L).c β)).run P w = .ok () w) ∧ (∀ k z, (a.re L).c β ≠ .int k z) ∧ ∃ p q m p' q' m', (a.re L).c β = .slice p q m ∧ (b.re L).c β = .slice p' q' m' := fun β w => by
         simp only [Bool.or_eq_true, Bool.and_eq_true] at hc
         rcases hc with ⟨h1, h2⟩ | ⟨h1, h2⟩
         · obtain ⟨ad, m, c, h3⟩ := nonNil_c h1 L β
           have h4 := isNilS_c h2 L β
           rw [h3, h4]
           exact ⟨by rw [Op.equal, show Op.maxDepth = 9999 + 1 from rfl, Op.equalIn, Sem.run_bind, Go.run_underlying hu w, Result.andThen_ok]; rfl, fun op' => (by cases op' <;> rfl), fun k z h => (by cases h), _, _, _, _, _, _, rfl, rfl⟩
         · obtain ⟨ad, m, c, h3⟩ := nonNil_c h2 L β
           have h4 := isNilS_c h1 L β
           rw [h3, h4]
           exact ⟨by rw [Op.equal, show Op.maxDepth = 9999 + 1 from rfl, Op.equalIn, Sem.run_bind, Go.run_underlying hu w, Result.andThen_ok]; rfl, fun op' => (by cases op' <;> rfl), fun k z h => (by cases h), _, _, _, _, _, _, rfl, rfl⟩
        split at h
        · simp only [Option.some.injEq] at h
          subst h
          refine GoodE.run hF hok hg (efOK_pure rfl) (fun k hk => by simp [EE.re, hk]) rfl (runOK_pure fun β a' w hs => ?_)
          have e1 := gv_eval hs (egv_gv hR hx) (fun k hk => by simp [hk])
          have e2 := gv_eval hs (egv_gv hR hy) (fun k hk => by simp [hk])
          obtain ⟨k1, k2, k3, p, q, m, p', q', m', k4, k5⟩ := key β w
          rw [k4, k5] at k1 k2
          simp only [execOp, e1, e2, k4, k5, Sem.run_bind, k2, Result.andThen_ok, binOp, k1, Sem.run_pure, EV.re, SV.c]
        · simp only [Option.some.injEq] at h
          subst h
          refine GoodE.run hF hok hg (efOK_pure rfl) (fun k hk => by simp [EE.re, hk]) rfl (runOK_pure fun β a' w hs => ?_)
          have e1 := gv_eval hs (egv_gv hR hx) (fun k hk => by simp [hk])
          have e2 := gv_eval hs (egv_gv hR hy) (fun k hk => by simp [hk])
          obtain ⟨k1, k2, k3, p, q, m, p', q', m', k4, k5⟩ := key β w
          rw [k4, k5] at k1 k2
          simp only [execOp, e1, e2, k4, k5, Sem.run_bind, k2, Result.andThen_ok, binOp, k1, Sem.run_pure, EV.re, SV.c, Bool.not_false]
        · cases h
     · cases h
   · cases h
def oIndexS {P : Program} (ty : Ty P) (t : TypeId) (x ix : Operand) (gs : List Nat) (s : Es) : Option EE :=
 match egv s x, egv s ix with
 | some (.v (.string a)), some (.v b) => (match ty.sp (Instr.index t (.string a) b) with
  | some v => (match forceW v with
   | some v => some ⟨v, [], [], gs ++ (os x ++ os ix), []⟩
   | none => none)
  | none => none)
 | _, _ => oIndex ty t x ix gs s
theorem good_indexS {P : Program} (T : Env P) {ty : Ty P} (hty : ∀ k ti, ty.f k = some ti → T.ty k = some ti) {F : Fence} {n : Nat} {ops : Array Oper} {dst : Option Tmp} {typ : TypeId} {pos : String} {after : Array Edge} {gd : Option (Nat × Bool)} {gs : List Nat} {σ : Sg} {L : Nat → Nat} {s : Es} {E : EE}
 (hF : Wd F) (hok : σ.Ok) (hR : Rel L s σ) {t : TypeId} {x y : Operand} (hg : Gd ops ⟨dst, .index t x y, typ, pos, after, gd⟩ gs σ) (h : oIndexS ty t x y gs s = some E) : GoodE F n P ops ⟨dst, .index t x y, typ, pos, after, gd⟩ σ (E.re L) := by
 unfold oIndexS at h
 split at h
 · rename_i a b hx hy
   split at h
   · rename_i v hv
     rw [forceW_eq] at h
     simp only [Option.some.injEq] at h
     subst h
     refine GoodE.run hF hok hg (efOK_pure rfl) (fun k hk => by simp [EE.re, hk]) rfl (runOK_pure fun β a' w hs => ?_)
     have e1 := gv_eval hs (egv_gv hR hx) (fun k hk => by simp [hk])
     have e2 := gv_eval hs (egv_gv hR hy) (fun k hk => by simp [hk])
     have e3 := ty.ok _ _ hv w
     simp only [EV.re, SV.c] at e1 e2
     simp only [execOp, e1, e2, EV.re, SV.c]
     rw [Sem.run_bind, e3]; rfl
   · cases h
 · exact good_index T hty hF hok hR hg h
def eo {P : Program} (ty : Ty P) (o : Oper) (gs : List Nat) (s : Es) : Option EE :=
 match o with
 | ⟨_, op, _, _, _, _⟩ => match op with
  | .move x => oMove x gs s
  | .assign x => oMove x gs s
  | .pick c a b => oPick c a b gs s
  | .alloc t => oAlloc ty t gs s
  | .box t x => oBox t x gs s
  | .load t x => oLoad ty t x gs s
  | .store t x y => oStore ty t x y gs s
  | .fieldAddr t x f => oFieldAddr ty t x f gs s
  | .field t x f => oField ty t x f gs s
  | .indexAddr t x i => oIndexAddr ty t x i gs s
  | .index t x i => oIndexS ty t x i gs s
  | .build t ps => oBuild ty t ps gs s
  | .buildSlice t n ps => oBuildSlice ty t n ps gs s
  | .slice t x lo hi mx => oSlice ty t x lo hi mx gs s
  | .makeSlice t x y => oMakeSlice ty t x y gs s
  | .binOp op t x y _ => oBin ty op t x y gs s
  | .unOp op _ x => oUnOp op x gs s
  | .convert a b x => oConvert ty a b x gs s
  | .extract x i => oExtract x i gs s
  | .makeFunc f first cap => oMakeFunc f first cap gs s
  | .nilCheck x => oNilC x gs s
  | .call ⟨.builtin .len, args, ts⟩ => oLen ty args ts gs s
  | .call ⟨.builtin .max, args, _⟩ => oFold imax args gs s
  | .call ⟨.builtin .min, args, _⟩ => oFold imin args gs s
  | .call ⟨.builtin .append, args, ts⟩ => oAppend ty args ts gs s
  | _ => none
theorem eo_good {P : Program} (T : Env P) {ty : Ty P} (hty : ∀ k ti, ty.f k = some ti → T.ty k = some ti) {F : Fence} {n : Nat} {ops : Array Oper} {o : Oper} {gs : List Nat} {σ : Sg} {L : Nat → Nat} {s : Es} {E : EE}
 (hF : Wd F) (hok : σ.Ok) (hR : Rel L s σ) (hg : Gd ops o gs σ) (h : eo ty o gs s = some E) : GoodE F n P ops o σ (E.re L) := by
 obtain ⟨dst, op, typ, pos, after, gd⟩ := o
 unfold eo at h
 cases op with
 | move x => exact good_move T hF hok hR hg h
 | assign x => exact good_assign T hF hok hR hg h
 | pick c a b => exact good_pick T hF hok hR hg h
 | alloc t => exact good_alloc T hty hF hok hR hg h
 | box t x => exact good_box T hF hok hR hg h
 | load t x => exact good_load T hty hF hok hR hg h
 | store t x y => exact good_store T hty hF hok hR hg h
 | fieldAddr t x f => exact good_fieldAddr T hty hF hok hR hg h
 | field t x f => exact good_field T hty hF hok hR hg h
 | indexAddr t x i => exact good_indexAddr T hty hF hok hR hg h
 | index t x i => exact good_indexS T hty hF hok hR hg h
 | build t ps => exact good_build T hty hF hok hR hg h
 | buildSlice t n ps => exact good_buildSlice T hty hF hok hR hg h
 | slice t x lo hi mx => exact good_slice T hty hF hok hR hg h
 | makeSlice t x y => exact good_makeSlice T hty hF hok hR hg h
 | binOp op a x y b => exact good_bin T hty hF hok hR hg h
 | unOp op a x => exact good_unOp T hF hok hR hg h
 | convert a b x => exact good_convert T hty hF hok hR hg h
 | extract x i => exact good_extract T hF hok hR hg h
 | makeFunc f first cap => exact good_makeFunc T hF hok hR hg h
 | nilCheck x => exact good_nil T hF hok hR hg h
 | call c =>
  obtain ⟨callee, args, ts⟩ := c
  cases callee with
  | value f => cases h
  | invoke r m => cases h
  | builtin b =>
   cases b with
   | len => exact good_len T hty hF hok hR hg h
   | max => exact good_max T hF hok hR hg h
   | min => exact good_min T hF hok hR hg h
   | append => exact good_append T hty hF hok hR hg h
   | _ => cases h
 | _ => cases h
theorem selK_mk {t : List (Nat × SV)} : ∀ {ks : List Nat} {K : List (Nat × SV) → Prop}, (∀ k ∈ ks, ∃ x, lk t k = some x) →
 (∀ l, (∀ k ∈ ks, lk l k = lk t k) → (∀ p ∈ l, lk t p.1 = some p.2) → K l) → selK t ks K
 | [], K, _, h => h [] (fun k hk => by cases hk) (fun p hp => by cases hp)
 | k :: r, K, hk, h => by
  obtain ⟨x, hx⟩ := hk k List.mem_cons_self
  simp only [selK, hx]
  refine selK_mk (fun j hj => hk j (List.mem_cons_of_mem _ hj)) fun l h1 h2 => h _ (fun j hj => ?_) (fun p hp => ?_)
  · by_cases hjk : j = k
    · subst hjk; rw [lk_cons_eq, hx]
    · rw [lk_cons_ne hjk]
      rcases List.mem_cons.1 hj with hj | hj
      · exact absurd hj hjk
      · exact h1 j hj
  · rcases List.mem_cons.1 hp with rfl | hp
    · exact hx
    · exact h2 p hp
theorem outK_mk {base : Nat} {g : List (Nat × SV)} : ∀ {ks : List Nat} {K : List (Nat × SV) → Prop}, (∀ l, (∀ k ∈ ks, ∀ x, lk g (base + k) = some x → lk l k = some x) → K l) → outK base g ks K
 | [], K, h => h [] (fun k hk => by cases hk)
 | k :: r, K, h => by
  simp only [outK]
  cases hx : lk g (base + k) with
  | some s =>
   refine outK_mk fun l hl => h _ fun j hj x hjx => ?_
   by_cases hjk : j = k
   · subst hjk; rw [hx] at hjx; rw [lk_cons_eq]; exact hjx
   · rw [lk_cons_ne hjk]
     rcases List.mem_cons.1 hj with hj | hj
     · exact absurd hj hjk
     · exact hl j hj x hjx
  | none =>
   refine outK_mk fun l hl => h _ fun j hj x hjx => ?_
   rcases List.mem_cons.1 hj with rfl | hj
   · rw [hx] at hjx; cases hjx
   · exact hl j hj x hjx
theorem lowK_mk {base : Nat} : ∀ {g : List (Nat × SV)} {K : List (Nat × SV) → Prop}, (∀ l, (∀ k x, k < base → lk g k = some x → lk l k = some x) → gLow base l = true → K l) → lowK base g K
 | [], K, h => h [] (fun k x _ hx => hx) rfl
 | (j, y) :: r, K, h => by
  simp only [lowK]
  cases hb : Nat.blt j base with
  | true =>
   refine lowK_mk fun l h1 h2 => h _ (fun k x hk hx => ?_) (by simp only [gLow, hb, h2, Bool.and_self])
   by_cases hkj : k = j
   · subst hkj; rw [lk_cons_eq] at hx ⊢; exact hx
   · rw [lk_cons_ne hkj] at hx ⊢; exact h1 k x hk hx
  | false =>
   refine lowK_mk fun l h1 h2 => h l (fun k x hk hx => ?_) h2
   have hkj : k ≠ j := fun e => by
    subst e
    rw [← Nat.blt_eq, hb] at hk; cases hk
   rw [lk_cons_ne hkj] at hx; exact h1 k x hk hx
theorem lowQ_mk {base d : Nat} : ∀ {q : List (Nat × LE)} {K : List (Nat × LE) → Prop}, (∀ p ∈ q, p.1 < d → p.2.base + p.2.nt ≤ base) →
 (∀ l, (∀ k x, k < d → lk q k = some x → lk l k = some x) → (∀ p ∈ l, p ∈ q ∧ p.1 < d) → K l) → lowQ base d q K
 | [], K, _, h => h [] (fun k x _ hx => hx) (fun p hp => by cases hp)
 | (j, y) :: r, K, hq, h => by
  simp only [lowQ]
  cases hb : Nat.blt j d with
  | true =>
   have hle := hq (j, y) List.mem_cons_self (by rwa [Nat.blt_eq] at hb)
   have hle' : Nat.ble (y.base + y.nt) base = true := by rw [Nat.ble_eq]; exact hle
   rw [hle']
   refine lowQ_mk (fun p hp => hq p (List.mem_cons_of_mem _ hp)) fun l h1 h2 => h _ (fun k x hk hx => ?_) (fun p hp => ?_)
   · by_cases hkj : k = j
     · subst hkj; rw [lk_cons_eq] at hx ⊢; exact hx
     · rw [lk_cons_ne hkj] at hx ⊢; exact h1 k x hk hx
   · rcases List.mem_cons.1 hp with rfl | hp
     · exact ⟨List.mem_cons_self, by rwa [Nat.blt_eq] at hb⟩
     · exact ⟨List.mem_cons_of_mem _ (h2 p hp).1, (h2 p hp).2⟩
  | false =>
   refine lowQ_mk (fun p hp => hq p (List.mem_cons_of_mem _ hp)) fun l h1 h2 => h l (fun k x hk hx => ?_) (fun p hp => ⟨List.mem_cons_of_mem _ (h2 p hp).1, (h2 p hp).2⟩)
   have hkj : k ≠ j := fun e => by
    subst e
    rw [← Nat.blt_eq, hb] at hk; cases hk
   rw [lk_cons_ne hkj] at hx; exact h1 k x hk hx
theorem offG_hi {base : Nat} {g : List (Nat × SV)} : ∀ {l : List (Nat × SV)} {k : Nat} {x : SV}, lk l k = some x → lk (offG base l g) (base + k) = some x
 | [], _, _, h => by cases h
 | (j, y) :: r, k, x, h => by
  simp only [offG]
  by_cases hk : k = j
  · subst hk; rw [lk_cons_eq] at h ⊢; exact h
  · rw [lk_cons_ne hk] at h
    rw [lk_cons_ne (by omega)]; exact offG_hi h
theorem offG_lo {base : Nat} {g : List (Nat × SV)} : ∀ {l : List (Nat × SV)} {k : Nat}, k < base → lk (offG base l g) k = lk g k
 | [], _, _ => rfl
 | (j, y) :: r, k, h => by
  simp only [offG]
  rw [lk_cons_ne (by omega)]; exact offG_lo h
theorem gLow_mono {a b : Nat} (hab : a ≤ b) : ∀ {g : List (Nat × SV)}, gLow a g = true → gLow b g = true
 | [], _ => rfl
 | (k, x) :: r, h => by
  simp only [gLow, Bool.and_eq_true, Nat.blt_eq] at *
  exact ⟨by omega, gLow_mono hab h.2⟩
theorem offG_gLow {base n : Nat} {g : List (Nat × SV)} (hg : gLow base g = true) : ∀ {l : List (Nat × SV)}, (∀ p ∈ l, p.1 < n) → gLow (base + n) (offG base l g) = true
 | [], _ => by
  simp only [offG]
  exact gLow_mono (by omega) hg
 | (j, y) :: r, h => by
  simp only [offG, gLow, Bool.and_eq_true, Nat.blt_eq]
  exact ⟨by have := h (j, y) List.mem_cons_self; simp only at this; omega, offG_gLow hg fun p hp => h p (List.mem_cons_of_mem _ hp)⟩
theorem qLow_mk {base d : Nat} : ∀ {q : List (Nat × LE)}, (∀ p ∈ q, p.1 < d ∧ p.2.base + p.2.nt ≤ base) → qLow base d q = true
 | [], _ => rfl
 | (k, e) :: r, h => by
  simp only [qLow, Bool.and_eq_true, Nat.blt_eq, Nat.ble_eq]
  exact ⟨⟨(h (k, e) List.mem_cons_self).2, (h (k, e) List.mem_cons_self).1⟩, qLow_mk fun p hp => h p (List.mem_cons_of_mem _ hp)⟩
theorem Rel.qLow {L : Nat → Nat} {s : Es} {σ : Sg} (h : Rel L s σ) : qLow s.base σ.z.d σ.z.q = true :=
 qLow_mk fun p hp => by
  obtain ⟨lp, h1, h2, h3⟩ := h.qq p hp
  have hm := List.mem_of_getElem? h1
  refine ⟨by rw [h.d]; exact (List.getElem?_eq_some_iff.1 h1).1, ?_⟩
  rw [← h2, ← h3]; exact (h.qb lp hm).1
structure FnI where
 nt : Nat
 c : Code
 rs : List ResultVar
def FnOK (P : Program) (T : Env P) (fnT : Nat → Option FnI) : Prop :=
 ∀ k f, fnT k = some f → ∃ fn : Func, P.funcs[k]? = some fn ∧ fn.body = some f.c ∧ fn.ntmps = f.nt ∧ fn.results.toList = f.rs ∧ T.fn k = true
def resE (ty : Nat → Option TI) (t : Tr EV) (m : Tr EB) : List ResultVar → Option (List EV)
 | [] => some []
 | .tmp k :: r => match t.get k with
  | some x => (match resE ty t m r with
   | some l => some (x :: l)
   | none => none)
  | none => none
 | .cell k e :: r => match t.get k, ty e with
  | some (.ptr i o), some ti => (match m.get i with
   | some (.cells l _ _) => (match dropO o l with
    | some l1 => (match takeO ti.size l1 with
     | some l2 => (match valO ti.kind.agg l2 with
      | some x => (match resE ty t m r with
       | some l => some (x :: l)
       | none => none)
      | none => none)
     | none => none)
    | none => none)
   | _ => none)
  | _, _ => none
def oneE (l : List EV) : EV :=
 match l with
 | [x] => x
 | l => .tup l
theorem resE_K {P : Program} (T : Env P) {ty : Nat → Option TI} (hty : ∀ k ti, ty k = some ti → T.ty k = some ti) {L : Nat → Nat} {s : Es} {σ : Sg} (hR : Rel L s σ) : ∀ {rs : List ResultVar} {l : List EV} {K : List SV → Prop}, resE ty s.t s.m rs = some l → K (EV.res L l) → resK T σ rs K
 | [], l, K, h, hK => by simp only [resE, Option.some.injEq] at h; subst h; exact hK
 | .tmp k :: r, l, K, h, hK => by
  simp only [resE] at h
  split at h
  · rename_i x hx
    split at h
    · rename_i l' hl
      simp only [Option.some.injEq] at h
      subst h
      simp only [resK, hR.t k x hx]
      exact resE_K T hty hR (K := fun l => K (x.re L :: l)) hl hK
    · cases h
  · cases h
 | .cell k e :: r, l, K, h, hK => by
  simp only [resE] at h
  split at h
  · rename_i i o ti hx hti
    split at h
    · rename_i l0 e' ro hm
      split at h
      · rename_i l1 h1
        split at h
        · rename_i l2 h2
          split at h
          · rename_i x hx'
            split at h
            · rename_i l' hl
              simp only [Option.some.injEq] at h
              subst h
              obtain ⟨q1, q2⟩ := dropO_spec h1
              obtain ⟨q3, q4⟩ := takeO_spec h2
              simp only [resK, hR.t k _ hx, hty _ _ hti, EV.re, hR.m i _ hm, EB.re]
              refine dropK_mk (by rw [EV.res_len]; exact q1) ?_
              rw [← EV.res_drop, ← q2]
              refine takeK_mk (by rw [EV.res_len]; exact q3) ?_
              rw [← EV.res_take, ← q4]
              exact valK_mk L hx' (resE_K T hty hR (K := fun l => K (x.re L :: l)) hl hK)
            · cases h
          · cases h
        · cases h
      · cases h
    · cases h
  · cases h
theorem oneE_K (L : Nat → Nat) {l : List EV} {K : SV → Prop} (h : K ((oneE l).re L)) : oneK (EV.res L l) K := by
 match l, h with
 | [], h => exact h
 | [x], h => exact h
 | x :: y :: r, h => exact h
def slotsT (k : Nat) : List EV → Tr EV
 | [] => .e
 | x :: r => Tr.set 16 (slotsT (k + 1) r) k x
theorem slotsT_get (L : Nat → Nat) : ∀ {l : List EV} {k j : Nat} {x : EV}, (slotsT k l).get j = some x → lk (slotsOf k (EV.res L l)) j = some (x.re L)
 | [], _, _, _, h => by cases h
 | y :: r, k, j, x, h => by
  simp only [EV.res, slotsOf]
  rcases Tr.set_get _ _ _ _ _ _ h with ⟨rfl, rfl⟩ | ⟨h1, h2⟩
  · exact lk_cons_eq
  · rw [lk_cons_ne h1]; exact slotsT_get L h2
def qB (base : Nat) : List Lp → Bool
 | [] => true
 | lp :: r => Nat.ble (Nat.add lp.base lp.nt) base && qB base r
theorem qB_mem {base : Nat} : ∀ {q : List Lp}, qB base q = true → ∀ lp ∈ q, lp.base + lp.nt ≤ base
 | [], _, _, h => by cases h
 | x :: r, h, lp, hm => by
  simp only [qB, Bool.and_eq_true, Nat.ble_eq] at h
  rcases List.mem_cons.1 hm with rfl | hm
  · exact h.1
  · exact qB_mem h.2 lp hm
def Sound (P : Program) (ih : Code → Es → Option (Exit × Es)) : Prop :=
 ∀ c s e s', ih c s = some (e, s') → ∀ (L : Nat → Nat) (σ : Sg) (Φ : Exit → Sg → Prop), Rel L s σ → (∀ L' σ', Rel L' s' σ' → Fol L L' s s' σ σ' → Φ e σ') → VC P c σ Φ
theorem back_mk {L L' : Nat → Nat} {s s2 : Es} {σ σ' σc : Sg} {sc : Es} {tl : List (Nat × SV)} {K : Sg → Prop} (hok : σ.Ok) (hR : Rel L s σ) (htl : ∀ k ∈ σ.t.map (·.1), lk tl k = lk σ.t k)
 (hg : σc.z.g = offG s.base tl σ.z.g) (hscb : sc.base = s.base + s.nt) (hyok : s.t.all (EV.yok s.nl) = true) (hnl : sc.nl = s.nl ∨ sc.nl = s.nl + 1) (hLs : ∀ i, i < s.nl → L' i = L i)
 (hR' : Rel L' s2 σ') (hgk : ∀ k x, k < sc.base → lk σc.z.g k = some x → lk σ'.z.g k = some x) (hqB : qB s.base (s2.q.take s.q.length) = true) (hql : s.q.length ≤ s2.q.length)
 (hK : ∀ σ'', Rel L' ⟨s.nt, s.t, s2.m, s2.nb, s2.q.take s.q.length, s2.nl, s.base⟩ σ'' → σ''.h = σ'.h → (∀ k x, k < s.base → lk σ.z.g k = some x → lk σ''.z.g k = some x) → K σ'') :
 backK σ.nt σ.z.d s.base (σ.t.map (·.1)) σ' K := by
 have hd := hR.d
 have hlt : ∀ i lp, i < s.q.length → s2.q[i]? = some lp → lp ∈ s2.q.take s.q.length := fun i lp hi hlp => List.mem_of_getElem? (i := i) (by rw [List.getElem?_take, if_pos hi]; exact hlp)
 refine outK_mk fun t ht => lowK_mk fun g hg1 hg2 => lowQ_mk (fun p hp hpd => ?_) fun q hq1 hq2 => hK _ ⟨hR.nt, fun k x hk => ?_, hR'.m, hR'.nb, ?_, fun i lp hi => ?_, fun p hp => ?_, fun lp hlp => ⟨qB_mem hqB lp hlp, fun k x hk => ?_⟩, hg2⟩ rfl fun k x hk hx => ?_
 · obtain ⟨lp, h1, h2, h3⟩ := hR'.qq p hp
   rw [hd] at hpd
   rw [← h2, ← h3]
   exact qB_mem hqB lp (hlt _ _ hpd h1)
 · have h1 := hR.t k x hk
   have hkm : k ∈ σ.t.map (·.1) := List.mem_map.2 ⟨_, lk_mem h1, rfl⟩
   have hkn : k < s.nt := by rw [← hR.nt]; exact hok.lt k _ h1
   have h2 : lk σc.z.g (s.base + k) = some (x.re L) := by rw [hg]; exact offG_hi (by rw [htl k hkm]; exact h1)
   have h3 := hgk (s.base + k) _ (by omega) h2
   rw [EV.re_congr (n := s.nl) (L := L) (L' := L') hLs x (Tr.all_get _ _ _ hyok hk)]
   exact ht k hkm _ h3
 · simp only [List.length_take]; omega
 · rw [List.getElem?_take] at hi
   split at hi
   · rename_i hlt'
     exact hq1 i _ (by rw [hd]; exact hlt') (hR'.q i lp hi)
   · cases hi
 · obtain ⟨h1, h2⟩ := hq2 p hp
   obtain ⟨lp, h3, h4⟩ := hR'.qq p h1
   exact ⟨lp, by rw [List.getElem?_take, if_pos (by rw [← hd]; exact h2)]; exact h3, h4⟩
 · have h0 := hR'.qb lp (List.mem_of_mem_take hlp)
   obtain ⟨h1, h2⟩ := h0.2 k x hk
   have := qB_mem hqB lp hlp
   exact ⟨h1, hg1 _ _ (by omega) h2⟩
 · exact hg1 k x hk (hgk k x (by omega) (by rw [hg, offG_lo hk]; exact hx))
end
end Go.Proofs.YtkbfcofifhngfaaGreat.Tx
namespace Go.Proofs.YtkbfcofifhngfaaGreat.Tx
open Go Go.RowKit
noncomputable section
set_option linter.unusedVariables false
set_option linter.unusedSimpArgs false
set_option linter.unusedSectionVars false
def isEnd : Exit → Bool
 | .normal => true
 | .ret => true
 | _ => false
def yokF (n : Nat) (x : EV) : Bool :=
 @EV.rec (fun _ => Bool) (fun _ => Bool) (fun _ => true) (fun _ _ => true) (fun _ _ _ _ => true) (fun _ _ _ => true) (fun _ ih => ih) (fun _ _ ih => ih) (fun _ _ ih => ih) (fun _ ih => ih) (fun k => Nat.blt k n) true (fun _ _ a b => Bool.rec false b a) x
def yokFs (n : Nat) (x : List EV) : Bool :=
 @EV.rec_1 (fun _ => Bool) (fun _ => Bool) (fun _ => true) (fun _ _ => true) (fun _ _ _ _ => true) (fun _ _ _ => true) (fun _ ih => ih) (fun _ _ ih => ih) (fun _ _ ih => ih) (fun _ ih => ih) (fun k => Nat.blt k n) true (fun _ _ a b => Bool.rec false b a) x
theorem yokFs_cons (n : Nat) (x : EV) (r : List EV) : yokFs n (x :: r) = (yokF n x && yokFs n r) := by
 have h : yokFs n (x :: r) = Bool.rec false (yokFs n r) (yokF n x) := rfl
 rw [h]
 cases yokF n x <;> rfl
mutual
theorem yokF_eq (n : Nat) : ∀ x : EV, yokF n x = EV.yok n x
 | .v _ => rfl
 | .ptr _ _ => rfl
 | .sl _ _ _ _ => rfl
 | .os _ _ _ => rfl
 | .agg l => by rw [EV.yok]; exact yokFs_eq n l
 | .fn _ l => by rw [EV.yok]; exact yokFs_eq n l
 | .mv _ l => by rw [EV.yok]; exact yokFs_eq n l
 | .tup l => by rw [EV.yok]; exact yokFs_eq n l
 | .yl _ => rfl
theorem yokFs_eq (n : Nat) : ∀ l : List EV, yokFs n l = EV.yoks n l
 | [] => rfl
 | x :: r => by rw [yokFs_cons, EV.yoks, yokF_eq n x, yokFs_eq n r]
end
def yokT (n : Nat) (t : Tr EV) : Bool := t.all (yokF n)
theorem yokT_eq (n : Nat) (t : Tr EV) : yokT n t = t.all (EV.yok n) := by
 unfold yokT
 rw [show yokF n = EV.yok n from funext (yokF_eq n)]
section
variable {P : Program} (T : Env P) (ty : Ty P) (fnT : Nat → Option FnI) (ih : Code → Es → Option (Exit × Es))
def exCall (k : Nat) (args : List EV) (s : Es) : Option (EV × Es) :=
 match s, fnT k with
 | ⟨nt, t, m, nb, q, nl, base⟩, some ⟨fnt, c, rs⟩ => bif Nat.ble args.length fnt && yokT nl t then
  (match ih c ⟨fnt, slotsT 0 args, m, nb, q, nl, Nat.add base nt⟩ with
  | some (e, ⟨_, t2, m2, nb2, q2, nl2, _⟩) => bif isEnd e && qB base q2 then (match resE ty.f t2 m2 rs with
   | some l => some (oneE l, ⟨nt, t, m2, nb2, q2, nl2, base⟩)
   | none => none) else none
  | none => none) else none
 | _, none => none
def lpOK (nl : Nat) (lp : Lp) : Bool := Nat.blt lp.n nl && lp.t.all (EV.yok nl)
def exRange (g : Operand) (ps : Array Tmp) (x y : Code) (s : Es) : Option (Exit × Es) :=
 match s, egv s g with
 | ⟨nt, t, m, nb, q, nl, base⟩, some (.fn (.func k) caps) => (match fnT k with
  | some ⟨fnt, c, rs⟩ => bif Nat.ble (Nat.succ caps.length) fnt && yokT nl t && m.all (EB.yok nl) && q.all (lpOK nl) && EV.yoks nl caps then
   (match ih c ⟨fnt, slotsT 0 (.yl nl :: caps), m, nb, q ++ [⟨nl, .ready, nt, base, t, ps, x, y⟩], Nat.succ nl, Nat.add base nt⟩ with
   | some (e, ⟨_, t2, m2, nb2, q2, nl2, _⟩) => bif isEnd e && qB base (q2.take q.length) then (match resE ty.f t2 m2 rs, q2[q.length]? with
    | some _, some ⟨_, .ready, _, _, _, _, _, _⟩ => some (.normal, ⟨nt, t, m2, nb2, q2.take q.length, nl2, base⟩)
    | some _, some ⟨_, .done .ret, _, _, _, _, _, _⟩ => some (.ret, ⟨nt, t, m2, nb2, q2.take q.length, nl2, base⟩)
    | some _, some ⟨_, .done (.exit id), _, _, _, _, _, _⟩ => some (.exit id, ⟨nt, t, m2, nb2, q2.take q.length, nl2, base⟩)
    | some _, some ⟨_, .done (.goto l), _, _, _, _, _, _⟩ => some (.goto l, ⟨nt, t, m2, nb2, q2.take q.length, nl2, base⟩)
    | _, _ => none) else none
   | none => none) else none
  | none => none)
 | _, _ => none
def findL (n : Nat) : List Lp → Nat → Option Nat
 | [], _ => none
 | ⟨k, .ready, _, _, _, _, _, _⟩ :: r, i => bif Nat.beq k n then some i else findL n r (Nat.succ i)
 | _ :: r, i => findL n r (Nat.succ i)
def setQ (st : LS) : Nat → List Lp → List Lp
 | _, [] => []
 | 0, ⟨n, _, nt, b, t, ps, x, y⟩ :: r => ⟨n, st, nt, b, t, ps, x, y⟩ :: r
 | i + 1, lp :: r => lp :: setQ st i r
def setTE : List Tmp → List EV → Tr EV → Tr EV
 | p :: ps, x :: xs, t => setTE ps xs (Tr.set 16 t p x)
 | _, _, t => t
def endLS : Exit → Option (LS × Bool)
 | .normal => some (.ready, true)
 | .ret => some (.done .ret, false)
 | .exit id => some (.done (.exit id), false)
 | .goto l => some (.done (.goto l), false)
 | _ => none
def exYield (n : Nat) (args : List EV) (s : Es) : Option (EV × Es) :=
 match s with
 | ⟨nt, t, m, nb, q, nl, base⟩ => (match findL n q 0 with
  | some i => (match q[i]? with
   | some ⟨n', .ready, lnt, lb, lt, ps, asg, bdy⟩ => bif Nat.beq n' n && Nat.beq ps.size args.length && psB lnt ps.toList && yokT nl t then
    (match ih asg ⟨lnt, setTE ps.toList args lt, m, nb, q, nl, Nat.add base nt⟩ with
    | some (.normal, ⟨nt1, t1, m1, nb1, q1, nl1, base1⟩) => (match q1[i]? with
     | some ⟨_, .ready, _, _, _, _, _, _⟩ => (match ih bdy ⟨nt1, t1, m1, nb1, setQ .busy i q1, nl1, base1⟩ with
      | some (e, ⟨_, _, m2, nb2, q2, nl2, _⟩) => (match endLS e with
       | some (st, b) => bif qB base q2 then (match mkB b with
        | some v => some (v, ⟨nt, t, m2, nb2, setQ st i q2, nl2, base⟩)
        | none => none) else none
       | none => none)
      | none => none)
     | _ => none)
    | _ => none) else none
   | _ => none)
  | none => none)
variable {ty fnT ih}
variable (hty : ∀ k ti, ty.f k = some ti → T.ty k = some ti) (hfn : FnOK P T fnT) (hm : P.follows .mixedOrders = true) (hS : Sound P ih)
include hty hfn hm hS
theorem call_sound {k : Nat} {args : List EV} {s s' : Es} {v : EV} {L : Nat → Nat} {σ : Sg} (h : exCall ty fnT ih k args s = some (v, s')) (hR : Rel L s σ) (hok : σ.Ok)
 (hargs : SV.lts σ.nb (EV.res L args) = true) : StOK P σ k (EV.res L args) (fun sv σ' => ∃ L', Rel L' s' σ' ∧ Fol L L' s s' σ σ' ∧ sv = v.re L') := by
 obtain ⟨nt, t, m, nb, q, nl, base⟩ := s
 unfold exCall at h
 split at h
 · rename_i nt t m nb q nl base fnt c rs heq hf
   cases heq
   cases hc : Nat.ble args.length fnt && yokT nl t with
   | false => rw [hc] at h; cases h
   | true =>
    rw [hc, cond_true] at h
    simp only [Bool.and_eq_true, Nat.ble_eq, yokT_eq] at hc
    split at h
    · rename_i e nt2 t2 m2 nb2 q2 nl2 base2 hev
      cases hc2 : isEnd e && qB base q2 with
      | false => rw [hc2] at h; cases h
      | true =>
       rw [hc2, cond_true] at h
       simp only [Bool.and_eq_true] at hc2
       split at h
       · rename_i l hres
         simp only [Option.some.injEq, Prod.mk.injEq] at h
         obtain ⟨rfl, rfl⟩ := h
         obtain ⟨fn, f1, f2, f3, f4, f5⟩ := hfn _ _ hf
         simp only at f2 f3 f4
         refine callI0V T hm base (σ.t.map (·.1)) f1 f2 f3 (by rw [EV.res_len]; exact hc.1) hargs hR.g hR.qLow ?_
         refine selK_mk (fun k hk => ?_) fun tl htl htl2 => ?_
         · obtain ⟨p, hp, rfl⟩ := List.mem_map.1 hk
           exact lk_isSome (x := p.2) hp
         refine hS _ _ _ _ hev L _ _ ⟨rfl, fun k x hk => slotsT_get L hk, hR.m, hR.nb, hR.d, hR.q, hR.qq, fun lp hlp => ?_, ?_⟩ fun L' σ' hR' hF' => ?_
         · obtain ⟨h1, h2⟩ := hR.qb lp hlp
           have h1 : lp.base + lp.nt ≤ base := h1
           refine ⟨Nat.le_trans h1 (Nat.le_add_right _ _), fun k x hk => ?_⟩
           obtain ⟨h3, h4⟩ := h2 k x hk
           exact ⟨h3, (offG_lo (by omega)).trans h4⟩
         · refine offG_gLow hR.g fun p hp => ?_
           have := hok.lt _ _ (htl2 p hp)
           rw [hR.nt] at this
           exact this
         · have key : resK T σ' fn.results.toList fun l' => oneK l' fun sv => backK σ.nt σ.z.d base (σ.t.map (·.1)) σ' fun σ'' => ∃ L', Rel L' ⟨nt, t, m2, nb2, q2, nl2, base⟩ σ'' ∧ Fol L L' ⟨nt, t, m, nb, q, nl, base⟩ ⟨nt, t, m2, nb2, q2, nl2, base⟩ σ σ'' ∧ sv = (oneE l).re L' := by
            rw [f4]
            refine resE_K T hty hR' hres (oneE_K L' ?_)
            have hql : q2.length = q.length := hF'.ql
            have htk : q2.take q.length = q2 := by rw [← hql, List.take_length]
            refine back_mk (s := ⟨nt, t, m, nb, q, nl, base⟩) (sc := ⟨fnt, slotsT 0 args, m, nb, q, nl, Nat.add base nt⟩) hok hR htl rfl rfl hc.2 (.inl rfl) hF'.L hR' hF'.g (by simp only; rw [htk]; exact hc2.2) (by simp only; omega) fun σ'' hR'' hh hg => ?_
            simp only [htk] at hR''
            exact ⟨L', hR'', ⟨hF'.L, hF'.nl, rfl, rfl, hql, hg, hh.trans hF'.h, hF'.ro, hF'.rob⟩, rfl⟩
           cases e <;> first | exact key | cases hc2.1
       · cases h
    · cases h
 · cases h
theorem range_sound {g : Operand} {ps : Array Tmp} {x y : Code} {s s' : Es} {e : Exit} {L : Nat → Nat} {σ : Sg} {Φ : Exit → Sg → Prop} (h : exRange ty fnT ih g ps x y s = some (e, s')) (hR : Rel L s σ)
 (hΦ : ∀ L' σ', Rel L' s' σ' → Fol L L' s s' σ σ' → Φ e σ') : VC P (.rangeFunc g ps x y) σ Φ := by
 intro F n X a w hF hlp hok hsat
 obtain ⟨nt, t, m, nb, q, nl, base⟩ := s
 unfold exRange at h
 split at h
 · rename_i nt t m nb q nl base k caps heq hg
   cases heq
   split at h
   · rename_i fnt c rs hf
     cases hc : Nat.ble (Nat.succ caps.length) fnt && yokT nl t && m.all (EB.yok nl) && q.all (lpOK nl) && EV.yoks nl caps with
     | false => rw [hc] at h; cases h
     | true =>
      rw [hc, cond_true] at h
      simp only [Bool.and_eq_true, Nat.ble_eq, List.all_eq_true, yokT_eq] at hc
      obtain ⟨⟨⟨⟨hc1, hct⟩, hcm⟩, hcq⟩, hcc⟩ := hc
      split at h
      · rename_i e2 nt2 t2 m2 nb2 q2 nl2 base2 hev
        cases hc2 : isEnd e2 && qB base (q2.take q.length) with
        | false => rw [hc2] at h; cases h
        | true =>
         rw [hc2, cond_true] at h
         simp only [Bool.and_eq_true] at hc2
         obtain ⟨fn, f1, f2, f3, f4, f5⟩ := hfn _ _ hf
         simp only at f2 f3 f4
         have hgv : gv σ g = some (.fn (.func k) (EV.res L caps)) := egv_gv hR hg
         have main : RFEv P g ps x y σ Φ := by
          refine rf_inline0V T hm base (σ.t.map (·.1)) hgv f5 f1 f2 f3 (by rw [EV.res_len]; omega) hR.g hR.qLow ?_
          refine selK_mk (fun k hk => ?_) fun tl htl htl2 => ?_
          · obtain ⟨p, hp, rfl⟩ := List.mem_map.1 hk
            exact lk_isSome (x := p.2) hp
          intro l asg' bdy' hasg hbdy
          subst hasg hbdy
          let L1 : Nat → Nat := fun i => if i = nl then l else L i
          have hL1 : ∀ i, i < nl → L1 i = L i := fun i hi => by
           have : ¬ i = nl := by omega
           simp only [L1, this, if_false]
          have hL1n : L1 nl = l := by simp [L1]
          have hnt : σ.nt = nt := hR.nt
          have hd : σ.z.d = q.length := hR.d
          have hslots : slotsOf 0 (.v (.func (.yield l) #[] #[]) :: EV.res L caps) = slotsOf 0 (EV.res L1 (.yl nl :: caps)) := by
           simp only [EV.res, EV.re, hL1n, EV.res_congr hL1 caps hcc]
          rw [hslots]
          refine hS _ _ _ _ hev L1 _ _ ⟨rfl, fun k x hk => slotsT_get L1 hk, fun i b hi => ?_, hR.nb, ?_, fun i lp hi => ?_, fun p hp => ?_, fun lp hlp => ?_, ?_⟩ fun L' σ' hR' hF' => ?_
          · rw [EB.re_congr hL1 b (Tr.all_get _ _ _ hcm hi)]; exact hR.m i b hi
          · simp only [hd, List.length_append, List.length_cons, List.length_nil]
          · rcases Nat.lt_or_ge i q.length with hlt | hge
            · rw [List.getElem?_append_left hlt] at hi
              have hlpok := hcq lp (List.mem_of_getElem? hi)
              simp only [lpOK, Bool.and_eq_true, Nat.blt_eq] at hlpok
              show lk ((σ.z.d, _) :: σ.z.q) i = _
              rw [lk_cons_ne (by omega), hL1 _ hlpok.1]
              exact hR.q i lp hi
            · rw [List.getElem?_append_right hge] at hi
              have hi0 : i - q.length = 0 := by
               rcases Nat.eq_zero_or_pos (i - q.length) with h | h
               · exact h
               · rw [List.getElem?_eq_none (by simp; omega)] at hi; cases hi
              rw [hi0] at hi
              simp only [List.getElem?_cons_zero, Option.some.injEq] at hi
              subst hi
              show lk ((σ.z.d, _) :: σ.z.q) i = _
              obtain rfl : i = σ.z.d := by omega
              rw [lk_cons_eq, hL1n, hnt]
          · rcases List.mem_cons.1 hp with rfl | hp
            · refine ⟨⟨nl, .ready, nt, base, t, ps, asg', bdy'⟩, ?_, rfl, hnt.symm⟩
              show (q ++ [_])[σ.z.d]? = _
              rw [hd, List.getElem?_append_right (Nat.le_refl _), Nat.sub_self]
              rfl
            · obtain ⟨lp, h1, h2⟩ := hR.qq p hp
              have hlt : p.1 < q.length := (List.getElem?_eq_some_iff.1 h1).1
              exact ⟨lp, (List.getElem?_append_left hlt).trans h1, h2⟩
          · rcases List.mem_append.1 hlp with hlp | hlp
            · obtain ⟨h1, h2⟩ := hR.qb lp hlp
              have h1 : lp.base + lp.nt ≤ base := h1
              have hlpok := hcq lp hlp
              simp only [lpOK, Bool.and_eq_true] at hlpok
              refine ⟨Nat.le_trans h1 (Nat.le_add_right _ _), fun k x hk => ?_⟩
              obtain ⟨h3, h4⟩ := h2 k x hk
              rw [EV.re_congr hL1 x (Tr.all_get _ _ _ hlpok.2 hk)]
              exact ⟨h3, (offG_lo (by omega)).trans h4⟩
            · simp only [List.mem_singleton] at hlp
              subst hlp
              refine ⟨Nat.le_refl _, fun k x hk => ?_⟩
              have h1 := hR.t k x hk
              have h2 := hok.lt _ _ h1
              rw [hnt] at h2
              rw [EV.re_congr hL1 x (Tr.all_get _ _ _ hct hk)]
              exact ⟨h2, offG_hi (by rw [htl k (List.mem_map.2 ⟨_, lk_mem h1, rfl⟩)]; exact h1)⟩
          · refine offG_gLow hR.g fun p hp => ?_
            have := hok.lt _ _ (htl2 p hp)
            rw [hnt] at this
            exact this
          · have hLs : ∀ i, i < nl → L' i = L i := fun i hi => (hF'.L i (Nat.lt_succ_of_lt hi)).trans (hL1 i hi)
            have hql : q2.length = q.length + 1 := by have := hF'.ql; simpa using this
            have bk : ∀ (e' : Exit), s' = ⟨nt, t, m2, nb2, q2.take q.length, nl2, base⟩ → e' = e → backK σ.nt σ.z.d base (σ.t.map (·.1)) σ' (Φ e') := by
             rintro e' rfl rfl
             refine back_mk (s := ⟨nt, t, m, nb, q, nl, base⟩) (L := L) (sc := ⟨fnt, slotsT 0 (.yl nl :: caps), m, nb, q ++ [⟨nl, .ready, nt, base, t, ps, asg', bdy'⟩], Nat.succ nl, Nat.add base nt⟩) hok hR htl rfl rfl hct (.inr rfl) hLs hR' hF'.g hc2.2 (by simp only; omega) fun σ'' hR'' hh hg => ?_
             refine hΦ L' σ'' hR'' ⟨hLs, Nat.le_trans (Nat.le_succ _) hF'.nl, rfl, rfl, ?_, hg, hh.trans hF'.h, hF'.ro, hF'.rob⟩
             simp only [List.length_take]; omega
            have key : ∀ {l0 : List EV}, resE ty.f t2 m2 rs = some l0 → rfEnd σ.nt σ.z.d base (σ.t.map (·.1)) σ' Φ → endΦ T fn (fun _ σ' => rfEnd σ.nt σ.z.d base (σ.t.map (·.1)) σ' Φ) e2 σ' := fun {l0} hres hre => by
             have : resK T σ' fn.results.toList fun l => oneK l fun _ => rfEnd σ.nt σ.z.d base (σ.t.map (·.1)) σ' Φ := by
              rw [f4]
              exact resE_K T hty hR' hres (oneE_K L' hre)
             cases e2 <;> first | exact this | cases hc2.1
            split at h
            · rename_i l0 hres hq
              cases h
              refine key hres ?_
              have hq' := hR'.q _ _ hq
              rw [← hd] at hq'
              unfold rfEnd
              rw [hq']
              exact bk _ rfl rfl
            · rename_i l0 hres hq
              cases h
              refine key hres ?_
              have hq' := hR'.q _ _ hq
              rw [← hd] at hq'
              unfold rfEnd
              rw [hq']
              exact bk _ rfl rfl
            · rename_i l0 hres hq
              cases h
              refine key hres ?_
              have hq' := hR'.q _ _ hq
              rw [← hd] at hq'
              unfold rfEnd
              rw [hq']
              exact bk _ rfl rfl
            · rename_i l0 hres hq
              cases h
              refine key hres ?_
              have hq' := hR'.q _ _ hq
              rw [← hd] at hq'
              unfold rfEnd
              rw [hq']
              exact bk _ rfl rfl
            · cases h
         obtain ⟨hmain⟩ := main
         exact hmain F n X a w hF hlp hok hsat
      · cases h
   · cases h
 · cases h
end
end
end Go.Proofs.YtkbfcofifhngfaaGreat.Tx
namespace Go.Proofs.YtkbfcofifhngfaaGreat.Tx
open Go Go.RowKit
noncomputable section
set_option linter.unusedVariables false
set_option linter.unusedSimpArgs false
set_option linter.unusedSectionVars false
theorem setQ_get {st : LS} : ∀ {q : List Lp} {i : Nat} {lp : Lp}, q[i]? = some lp → ∀ j, (setQ st i q)[j]? = if j = i then some { lp with s := st } else q[j]?
 | [], _, _, h, _ => by simp at h
 | ⟨n, s0, nt, b, t, ps, x, y⟩ :: r, 0, lp, h, j => by
  simp only [List.getElem?_cons_zero, Option.some.injEq] at h
  subst h
  cases j with
  | zero => simp [setQ]
  | succ j => simp [setQ]
 | x :: r, i + 1, lp, h, j => by
  cases j with
  | zero => simp [setQ]
  | succ j =>
   simp only [setQ, List.getElem?_cons_succ]
   rw [setQ_get (q := r) (by simpa using h) j]
   by_cases hj : j = i
   · simp [hj]
   · simp [hj]
theorem setQ_len {st : LS} : ∀ (q : List Lp) (i : Nat), (setQ st i q).length = q.length
 | [], i => by cases i <;> rfl
 | ⟨n, s0, nt, b, t, ps, x, y⟩ :: r, 0 => rfl
 | x :: r, i + 1 => by simp [setQ, setQ_len r i]
theorem setQ_mem {st : LS} {q : List Lp} {i : Nat} {lp : Lp} (h : q[i]? = some lp) {x : Lp} (hx : x ∈ setQ st i q) : x = { lp with s := st } ∨ x ∈ q := by
 obtain ⟨j, hj⟩ := List.getElem?_of_mem hx
 rw [setQ_get h j] at hj
 split at hj
 · exact .inl (Option.some.inj hj).symm
 · exact .inr (List.mem_of_getElem? hj)
theorem setTE_get (L : Nat → Nat) : ∀ {ps : List Tmp} {xs : List EV} {t : Tr EV} {t0 : List (Nat × SV)}, (∀ k x, t.get k = some x → lk t0 k = some (x.re L)) → ∀ k x, (setTE ps xs t).get k = some x → lk (setT ps (EV.res L xs) t0) k = some (x.re L)
 | p :: ps, y :: xs, t, t0, h, k, x, hk => by
  simp only [setTE] at hk
  simp only [EV.res, setT]
  refine setTE_get L (ps := ps) (fun k x hk => ?_) k x hk
  rcases Tr.set_get _ _ _ _ _ _ hk with ⟨rfl, rfl⟩ | ⟨h1, h2⟩
  · exact lk_cons_eq
  · rw [lk_cons_ne h1]; exact h k x h2
 | [], xs, t, t0, h, k, x, hk => by
  have e1 : setTE [] xs t = t := by cases xs <;> rfl
  have e2 : setT [] (EV.res L xs) t0 = t0 := by cases xs <;> rfl
  rw [e1] at hk; rw [e2]; exact h k x hk
 | p :: ps, [], t, t0, h, k, x, hk => h k x hk
theorem psB_range (n : Nat) : psB n (List.range n) = true := by
 have key : ∀ (l : List Nat), (∀ k ∈ l, k < n) → psB n l = true := by
  intro l
  induction l with
  | nil => intro _; rfl
  | cons k r ih =>
   intro h
   simp only [psB, Bool.and_eq_true, Nat.blt_eq]
   exact ⟨h k List.mem_cons_self, ih fun j hj => h j (List.mem_cons_of_mem _ hj)⟩
 exact key _ fun k hk => List.mem_range.1 hk
theorem findL_spec {n : Nat} : ∀ {q : List Lp} {i j : Nat}, findL n q i = some j → ∃ k lp, j = i + k ∧ q[k]? = some lp ∧ lp.n = n
 | [], _, _, h => by cases h
 | ⟨k, .ready, a, b, c, d, e, f⟩ :: r, i, j, h => by
  simp only [findL] at h
  cases hb : Nat.beq k n with
  | true =>
   rw [hb, cond_true, Option.some.injEq] at h
   exact ⟨0, _, by omega, rfl, Nat.eq_of_beq_eq_true hb⟩
  | false =>
   rw [hb, cond_false] at h
   obtain ⟨k', lp, h1, h2, h3⟩ := findL_spec h
   exact ⟨k' + 1, lp, by omega, by simpa using h2, h3⟩
 | ⟨k, .busy, a, b, c, d, e, f⟩ :: r, i, j, h => by
  simp only [findL] at h
  obtain ⟨k', lp, h1, h2, h3⟩ := findL_spec h
  exact ⟨k' + 1, lp, by omega, by simpa using h2, h3⟩
 | ⟨k, .done _, a, b, c, d, e, f⟩ :: r, i, j, h => by
  simp only [findL] at h
  obtain ⟨k', lp, h1, h2, h3⟩ := findL_spec h
  exact ⟨k' + 1, lp, by omega, by simpa using h2, h3⟩
theorem Rel.setQ {L : Nat → Nat} {nt : Nat} {t : Tr EV} {m : Tr EB} {nb : Nat} {q : List Lp} {nl base : Nat} {snt snb sd : Nat} {st : List (Nat × SV)} {sm : List (Nat × Blk)} {sh : World → Prop} {sg : List (Nat × SV)} {sq : List (Nat × LE)} {i : Nat} {lp : Lp} (s0 : LS)
 (h : Rel L ⟨nt, t, m, nb, q, nl, base⟩ ⟨snt, st, sm, snb, sh, ⟨sg, sq, sd⟩⟩) (hi : q[i]? = some lp) :
 Rel L ⟨nt, t, m, nb, Tx.setQ s0 i q, nl, base⟩ ⟨snt, st, sm, snb, sh, ⟨sg, (i, ⟨L lp.n, s0, lp.nt, lp.base, lp.ps, lp.asg, lp.bdy⟩) :: sq, sd⟩⟩ := by
 refine ⟨h.nt, h.t, h.m, h.nb, ?_, fun j x hj => ?_, fun p hp => ?_, fun x hx => ?_, h.g⟩
 · show sd = (Tx.setQ s0 i q).length
   rw [setQ_len]; exact h.d
 · simp only [setQ_get hi] at hj
   split at hj
   · rename_i hji
     subst hji
     simp only [Option.some.injEq] at hj
     subst hj
     exact lk_cons_eq
   · rename_i hji
     exact (lk_cons_ne hji).trans (h.q j x hj)
 · rcases List.mem_cons.1 hp with rfl | hp
   · exact ⟨{ lp with s := s0 }, by simp only [setQ_get hi]; simp, rfl, rfl⟩
   · obtain ⟨x, h1, h2, h3⟩ := h.qq p hp
     by_cases hpi : p.1 = i
     · refine ⟨{ lp with s := s0 }, by simp only [setQ_get hi]; simp [hpi], ?_⟩
       have h1' : q[p.1]? = some x := h1
       rw [hpi, hi, Option.some.injEq] at h1'
       subst h1'
       exact ⟨h2, h3⟩
     · exact ⟨x, by simp only [setQ_get hi]; rw [if_neg hpi]; exact h1, h2, h3⟩
 · rcases setQ_mem hi hx with rfl | hx
   · exact h.qb lp (List.mem_of_getElem? hi)
   · exact h.qb x hx
section
variable {P : Program} (T : Env P) {ty : Ty P} {fnT : Nat → Option FnI} {ih : Code → Es → Option (Exit × Es)}
variable (hm : P.follows .mixedOrders = true) (hS : Sound P ih)
include hm hS
theorem yield_sound {n : Nat} {args : List EV} {s s' : Es} {v : EV} {L : Nat → Nat} {σ : Sg} (h : exYield ih n args s = some (v, s')) (hR : Rel L s σ) (hok : σ.Ok)
 (hargs : SV.lts σ.nb (EV.res L args) = true) : YEv P σ (L n) (EV.res L args) (some fun sv σ' => ∃ L', Rel L' s' σ' ∧ Fol L L' s s' σ σ' ∧ sv = v.re L') := by
 obtain ⟨nt, t, m, nb, q, nl, base⟩ := s
 unfold exYield at h
 simp only at h
 split at h
 · rename_i i hfind
   obtain ⟨k0, lp0, e0, hk0, hn0⟩ := findL_spec hfind
   obtain rfl : i = k0 := by omega
   split at h
   · rename_i n' lnt lb lt ps asg bdy hq
     cases hc : Nat.beq n' n && Nat.beq ps.size args.length && psB lnt ps.toList && yokT nl t with
     | false => rw [hc] at h; cases h
     | true =>
      rw [hc, cond_true] at h
      simp only [Bool.and_eq_true, yokT_eq] at hc
      obtain ⟨⟨⟨hc1, hc2⟩, hc3⟩, hct⟩ := hc
      obtain rfl := Nat.eq_of_beq_eq_true hc1
      have hc2 := Nat.eq_of_beq_eq_true hc2
      split at h
      · rename_i nt1 t1 m1 nb1 q1 nl1 base1 hev1
        split at h
        · rename_i a1 a2 a3 a4 a5 a6 a7 hq1
          split at h
          · rename_i e b1 b2 m2 nb2 q2 nl2 b3 hev2
            split at h
            · rename_i st b hend
              cases hqB : qB base q2 with
              | false => rw [hqB] at h; cases h
              | true =>
               rw [hqB, cond_true] at h
               rw [mkB_eq] at h
               simp only [Option.some.injEq, Prod.mk.injEq] at h
               obtain ⟨rfl, rfl⟩ := h
               have hnt : σ.nt = nt := hR.nt
               have hd : σ.z.d = q.length := hR.d
               have hqi := hR.q i _ hq
               have hqbi := hR.qb _ (List.mem_of_getElem? hq)
               simp only at hqi hqbi
               refine yield_inline0V hm rfl i base (List.range lnt) (σ.t.map (·.1)) hqi (by rw [EV.res_len]; exact hc2) hc3 hargs hR.g hR.qLow ?_ (psB_range _)
               refine selK_mk (fun k hk => ?_) fun tl htl htl2 => ?_
               · obtain ⟨p, hp, rfl⟩ := List.mem_map.1 hk
                 exact lk_isSome (x := p.2) hp
               refine outK_mk fun t0 ht0 => ?_
               have hslots : ∀ k x, lt.get k = some x → lk t0 k = some (x.re L) := fun k x hk => by
                obtain ⟨h1, h2⟩ := hqbi.2 k x hk
                exact ht0 k (List.mem_range.2 h1) _ h2
               refine hS _ _ _ _ hev1 L _ _ ⟨rfl, fun k x hk => setTE_get L hslots k x hk, hR.m, hR.nb, hR.d, hR.q, hR.qq, fun lp hlp => ?_, ?_⟩ fun L1 σ1 hR1 hF1 => ?_
               · obtain ⟨h1, h2⟩ := hR.qb lp hlp
                 have h1 : lp.base + lp.nt ≤ base := h1
                 refine ⟨Nat.le_trans h1 (Nat.le_add_right _ _), fun k x hk => ?_⟩
                 obtain ⟨h3, h4⟩ := h2 k x hk
                 exact ⟨h3, (offG_lo (by omega)).trans h4⟩
               · refine offG_gLow hR.g fun p hp => ?_
                 have := hok.lt _ _ (htl2 p hp)
                 rw [hnt] at this
                 exact this
               · obtain ⟨snt, st1, sm, snb, sh, ⟨sg, sq, sd⟩⟩ := σ1
                 have hb1 : base1 = base + nt := hF1.base
                 have hql1 : q1.length = q.length := hF1.ql
                 have hq1' := hR1.q i _ hq1
                 have hRb := hR1.setQ .busy hq1
                 simp only at hq1' hRb
                 simp only [thenΦ, busyK, hq1']
                 refine hS _ _ _ _ hev2 L1 _ _ hRb fun L2 σ2 hR2 hF2 => ?_
                 have hLs : ∀ j, j < nl → L2 j = L j := fun j hj => (hF2.L j (Nat.lt_of_lt_of_le hj hF1.nl)).trans (hF1.L j hj)
                 have hql2 : q2.length = q.length := by
                  have := hF2.ql
                  simp only [setQ_len] at this
                  omega
                 have hgk : ∀ k x, k < base + nt → lk (offG base tl σ.z.g) k = some x → lk σ2.z.g k = some x := fun k x hk hx => hF2.g k x (by simp only; omega) (hF1.g k x hk hx)
                 have hq2i : ∃ lp2, q2[i]? = some lp2 := by
                  have : i < q2.length := by rw [hql2]; exact (List.getElem?_eq_some_iff.1 hq).1
                  exact ⟨_, List.getElem?_eq_getElem this⟩
                 obtain ⟨lp2, hlp2⟩ := hq2i
                 have hq2' := hR2.q i lp2 hlp2
                 have bk : ∀ (vb : Bool), vb = b → backR σ.nt σ.z.d base (σ.t.map (·.1)) i st σ2 ((fun sv σ' => ∃ L', Rel L' ⟨nt, t, m2, nb2, Tx.setQ st i q2, nl2, base⟩ σ' ∧ Fol L L' ⟨nt, t, m, nb, q, nl, base⟩ ⟨nt, t, m2, nb2, Tx.setQ st i q2, nl2, base⟩ σ σ' ∧ sv = EV.re L' (.v (.bool b))) (.v (.bool vb))) := by
                  rintro vb rfl
                  unfold backR
                  rw [hq2']
                  refine outK_mk fun t3 ht3 => lowK_mk fun g3 hg1 hg2 => lowQ_mk (fun p hp hpd => ?_) fun q3 hq1 hq2 => ⟨?_, L2, ?_, ?_, rfl⟩
                  · obtain ⟨lp, h1, h2, h3⟩ := hR2.qq p hp
                    rw [← h2, ← h3]
                    exact qB_mem hqB lp (List.mem_of_getElem? h1)
                  · rw [Nat.ble_eq]
                    exact qB_mem hqB lp2 (List.mem_of_getElem? hlp2)
                  · refine Rel.setQ (lp := lp2) st ⟨hnt, fun k x hk => ?_, hR2.m, hR2.nb, by simp only; omega, fun j lp hj => ?_, fun p hp => ?_, fun lp hlp => ⟨qB_mem hqB lp hlp, fun k x hk => ?_⟩, hg2⟩ hlp2
                    · have h1 := hR.t k x hk
                      have hkm : k ∈ σ.t.map (·.1) := List.mem_map.2 ⟨_, lk_mem h1, rfl⟩
                      have hkn : k < nt := by rw [← hnt]; exact hok.lt k _ h1
                      have h2 : lk (offG base tl σ.z.g) (base + k) = some (x.re L) := offG_hi (by rw [htl k hkm]; exact h1)
                      have h3 := hgk (base + k) _ (by omega) h2
                      rw [EV.re_congr (n := nl) (L := L) (L' := L2) hLs x (Tr.all_get _ _ _ hct hk)]
                      exact ht3 k hkm _ h3
                    · have hjl : j < q2.length := (List.getElem?_eq_some_iff.1 hj).1
                      exact hq1 j _ (by omega) (hR2.q j lp hj)
                    · obtain ⟨h1, h2⟩ := hq2 p hp
                      exact hR2.qq p h1
                    · have h0 := hR2.qb lp hlp
                      obtain ⟨h1, h2⟩ := h0.2 k x hk
                      have := qB_mem hqB lp hlp
                      exact ⟨h1, hg1 _ _ (by omega) h2⟩
                  · refine ⟨hLs, Nat.le_trans hF1.nl hF2.nl, rfl, rfl, by simp only [setQ_len]; exact hql2, fun k x hk hx => ?_, ?_, fun j l e hj => hF1.ro j l e (hF2.ro j l e hj), fun j l n e hj => hF1.rob j l n e (hF2.rob j l n e hj)⟩
                    · have hk : k < base := hk
                      exact hg1 k x hk (hgk k x (by omega) (by rw [offG_lo hk]; exact hx))
                    · exact hF2.h.trans hF1.h
                 cases e with
                 | normal => simp only [endLS, Option.some.injEq, Prod.mk.injEq] at hend; obtain ⟨rfl, rfl⟩ := hend; exact bk true rfl
                 | ret => simp only [endLS, Option.some.injEq, Prod.mk.injEq] at hend; obtain ⟨rfl, rfl⟩ := hend; exact bk false rfl
                 | exit id => simp only [endLS, Option.some.injEq, Prod.mk.injEq] at hend; obtain ⟨rfl, rfl⟩ := hend; exact bk false rfl
                 | goto l => simp only [endLS, Option.some.injEq, Prod.mk.injEq] at hend; obtain ⟨rfl, rfl⟩ := hend; exact bk false rfl
                 | _ => cases hend
            · cases h
          · cases h
        · cases h
      · cases h
   · cases h
 · cases h
end
end
end Go.Proofs.YtkbfcofifhngfaaGreat.Tx
namespace Go.Proofs.YtkbfcofifhngfaaGreat.Tx
open Go Go.RowKit
noncomputable section
set_option linter.unusedVariables false
set_option linter.unusedSimpArgs false
set_option linter.unusedSectionVars false
inductive StR where
 | ef (E : EE)
 | st (v : EV) (s : Es)
def OrcOK (P : Program) (T : Env P) (orc : Nat → List EV → Option Value) : Prop :=
 ∀ k args v, orc k args = some v → T.fn k = true ∧ ∀ (L : Nat → Nat) (β : Nat → Nat) (w : World), Calls P k (SV.cs β (EV.res L args)).toArray w fun e w' => e = .returned v ∧ Below w.heap.size w w'
def calleeE (s : Es) (f : Operand) : Option ((Nat × List EV × List EV) ⊕ Nat) :=
 match egv s f with
 | some (.yl n) => some (.inr n)
 | some (.fn (.func k) cap) => some (.inl (k, [], cap))
 | some (.mv (.func k) first) => some (.inl (k, first, []))
 | some (.v (.func (.func k) first cap)) => (match first.toList, cap.toList with
  | [], [] => some (.inl (k, [], []))
  | _, _ => none)
 | _ => none
def appE : List EV → List EV → List EV
 | [], r => r
 | x :: l, r => x :: appE l r
theorem appE_eq : ∀ l r : List EV, appE l r = l ++ r
 | [], _ => rfl
 | x :: l, r => by rw [appE, appE_eq l r]; rfl
section
variable {P : Program} (T : Env P) {F : Fence} {n : Nat} {ops : Array Oper} {dst : Option Tmp} {ty : TypeId} {pos : String} {after : Array Edge} {gd : Option (Nat × Bool)} {gs : List Nat} {σ : Sg} {K : Ef → Prop} {KF : Option KT}
theorem call_opF {f : Operand} {args : Array Operand} {ts : Array TypeId} {k : Nat} {first l caps : List SV} {E : Ef} {sf : SV} (hF : Wd F) (hlt : ∀ k s, lk σ.t k = some s → k < σ.nt)
 (hg : Gd ops ⟨dst, .call ⟨.value f, args, ts⟩, ty, pos, after, gd⟩ gs σ) (hf : gv σ f = some sf) (hsf : ∀ β, sf.c β = .func (.func k) (SV.cs β first).toArray (SV.cs β caps).toArray)
 (hk : T.fn k = true) (hl : args.toList.map (gv σ) = l.map some) (hgs : ∀ k ∈ gs, k ∈ E.rs) (hrs : ∀ k ∈ os f ++ oss args.toList, k ∈ E.rs)
 (hc : CallOK P σ k (first ++ (l ++ caps)) E) : OpOK F n P ops ⟨dst, .call ⟨.value f, args, ts⟩, ty, pos, after, gd⟩ σ E := by
 intro Q β a w K' hs hK'
 have hgd : GuardOn ops ⟨dst, .call ⟨.value f, args, ts⟩, ty, pos, after, gd⟩ σ E := ⟨by
  rcases hg with h | ⟨j, want, k, h1, h2, h3, h4⟩
  · exact .inl h
  · exact .inr ⟨j, want, k, h1, h2, hgs k h3, h4⟩⟩
 unfold StepB
 rw [hgd.wanted hs hlt, if_pos rfl]
 refine ⟨fun f _ => hF.fn f, ?_⟩
 have hsem : Oper.semAt F.round a.eval ⟨dst, .call ⟨.value f, args, ts⟩, ty, pos, after, gd⟩ = execOp a.eval ⟨dst, .call ⟨.value f, args, ts⟩, ty, pos, after, gd⟩ := Oper.semAt_eq _ _ _ (fun c hc => by cases hc)
 rw [hsem]
 have e1 := gv_eval hs hf (fun k hk => hrs k (List.mem_append_left _ hk))
 have e2 := map_toArray (gvs_eval hs hl (fun k hk => hrs k (List.mem_append_right _ hk)))
 have hrun : (execOp a.eval ⟨dst, .call ⟨.value f, args, ts⟩, ty, pos, after, gd⟩).run P w = .ok (.enter k (SV.cs β (first ++ (l ++ caps))).toArray) w := by
  simp only [execOp, resolve, e1, hsf, e2, Deferred.ofValue, invoke, Sem.run_bind, Sem.run_pure, Result.andThen_ok, T.fok k hk]
  rw [cs_append, cs_append]
  simp
 rw [hrun, Oper.uponIn_enter]
 refine ⟨fun hd => (by rw [hF.depth] at hd; cases hd), ?_⟩
 refine hF.calls ((hc β w hs.m hs.inj hs.st).mono fun e w' ⟨β', he, hp⟩ => ?_)
 subst he
 exact hK' β' w' hp
theorem call_stF {f : Operand} {args : Array Operand} {ts : Array TypeId} {k : Nat} {first l caps : List SV} {sf : SV} (hF : Wd F) (hok : σ.Ok)
 (hg : Gd ops ⟨dst, .call ⟨.value f, args, ts⟩, ty, pos, after, gd⟩ gs σ) (hf : gv σ f = some sf) (hsf : ∀ β, sf.c β = .func (.func k) (SV.cs β first).toArray (SV.cs β caps).toArray)
 (hk : T.fn k = true) (hl : args.toList.map (gv σ) = l.map some) {ks : KT} (hkf : KF = some ks)
 (hc : StOK P σ k (first ++ (l ++ caps)) ks) : StGood F n P ops ⟨dst, .call ⟨.value f, args, ts⟩, ty, pos, after, gd⟩ σ KF := by
 refine ⟨ks, hkf, fun X Q a w hd hsat => ?_⟩
 obtain ⟨β, D, hs'⟩ := hsat
 have hs := hs'.sees ⟨.v undef, [], [], gs ++ (os f ++ oss args.toList), []⟩
 have hgd : GuardOn ops ⟨dst, .call ⟨.value f, args, ts⟩, ty, pos, after, gd⟩ σ ⟨.v undef, [], [], gs ++ (os f ++ oss args.toList), []⟩ := ⟨by
  rcases hg with h | ⟨j, want, k, h1, h2, h3, h4⟩
  · exact .inl h
  · exact .inr ⟨j, want, k, h1, h2, by simp [h3], h4⟩⟩
 unfold StepB
 rw [hgd.wanted hs hok.lt, if_pos rfl]
 refine ⟨fun f _ => hF.fn f, ?_⟩
 have hsem : Oper.semAt F.round a.eval ⟨dst, .call ⟨.value f, args, ts⟩, ty, pos, after, gd⟩ = execOp a.eval ⟨dst, .call ⟨.value f, args, ts⟩, ty, pos, after, gd⟩ := Oper.semAt_eq _ _ _ (fun c hc => by cases hc)
 rw [hsem]
 have e1 := gv_eval hs hf (fun k hk => by simp [hk])
 have e2 := map_toArray (gvs_eval hs hl (fun k hk => by simp [hk]))
 have hrun : (execOp a.eval ⟨dst, .call ⟨.value f, args, ts⟩, ty, pos, after, gd⟩).run P w = .ok (.enter k (SV.cs β (first ++ (l ++ caps))).toArray) w := by
  simp only [execOp, resolve, e1, hsf, e2, Deferred.ofValue, invoke, Sem.run_bind, Sem.run_pure, Result.andThen_ok, T.fok k hk]
  rw [cs_append, cs_append]
  simp
 rw [hrun, Oper.uponIn_enter]
 refine ⟨fun hd => (by rw [hF.depth] at hd; cases hd), ?_⟩
 refine hF.calls ((hc X β D a w hok hs').mono fun e w' ⟨s, σ', β', D', he, h1, h2, h3, h4, h5⟩ => ?_)
 subst he
 exact ⟨s, σ', h1, h2, h3, h4, β', D', sat_put h5 (fun d hd' => by rw [h4]; exact hd d hd')⟩
end
section
variable {P : Program} (T : Env P) (ty : Ty P) (fnT : Nat → Option FnI) (orc : Nat → List EV → Option Value) (ce : Nat → List EV → Es → Option EE) (ih : Code → Es → Option (Exit × Es))
def runOp (pure : Bool) (o : Oper) (gs : List Nat) (s : Es) : Option StR :=
 match o with
 | ⟨_, .call ⟨.value f, args, _⟩, _, _, _, _⟩ => (match calleeE s f, egvs s args.toList with
  | some (.inr n), some l => (match exYield ih n l s with
   | some (v, s') => some (.st v s')
   | none => none)
  | some (.inl (k, first, cap)), some l => (match appE first (appE l cap) with
   | full => match orc k full with
    | some v => some (.ef ⟨.v v, [], [], gs ++ (os f ++ oss args.toList), []⟩)
    | none => match pure with
     | true => (match ce k full s with
      | some ⟨v, fr, mods, _, rb⟩ => some (.ef ⟨v, fr, mods, gs ++ (os f ++ oss args.toList), rb⟩)
      | none => none)
     | false => (match exCall ty fnT ih k full s with
      | some (v, s') => some (.st v s')
      | none => none))
  | _, _ => none)
 | o => match eo ty o gs s with
  | some E => some (.ef E)
  | none => none
def Es.tget (s : Es) (k : Nat) : Option EV :=
 match s with
 | ⟨_, t, _, _, _, _, _⟩ => t.get k
def runG (pure : Bool) (L0 : List Oper) (o : Oper) (s : Es) : Option StR :=
 match o.guard with
 | none => runOp ty fnT orc ce ih pure o [] s
 | some (j, want) => match (L0[j]?).bind (·.dst) with
  | some k => (match s.tget k with
   | some (.v (.bool true)) => (match want with
    | true => runOp ty fnT orc ce ih pure o [k] s
    | false => some (.ef ⟨.v undef, [], [], [k], []⟩))
   | some (.v (.bool false)) => (match want with
    | false => runOp ty fnT orc ce ih pure o [k] s
    | true => some (.ef ⟨.v undef, [], [], [k], []⟩))
   | some (.v (.tuple _)) => some (.ef ⟨.v undef, [], [], [k], []⟩)
   | _ => none)
  | none => none
def forceN {α : Type} (n : Nat) (k : Nat → Option α) : Option α :=
 match n with
 | 0 => k 0
 | n + 1 => k (Nat.succ n)
theorem forceN_eq {α : Type} (n : Nat) (k : Nat → Option α) : forceN n k = k n := by cases n <;> rfl
def forceV {α : Type} (v : EV) (k : EV → Option α) : Option α :=
 match v with
 | .ptr i o => forceN i fun i => forceN o fun o => k (.ptr i o)
 | .sl i o n c => forceN i fun i => forceN o fun o => forceN n fun n => forceN c fun c => k (.sl i o n c)
 | .os i j n => forceN i fun i => forceN j fun j => forceN n fun n => k (.os i j n)
 | v => k v
theorem forceV_eq {α : Type} (v : EV) (k : EV → Option α) : forceV v k = k v := by
 cases v <;> simp only [forceV, forceN_eq]
def stepM (d : Option Tmp) (x : EV) (fr : List Nat) (mods : List (Nat × EB)) (nt : Nat) (t : Tr EV) (m : Tr EB) (nb : Nat) (q : List Lp) (nl base : Nat) : Option Es :=
 bif roOK mods then forceV x fun x => forceN (cnt fr nb) fun nb => (match setMs mods m with
  | .e => some ⟨nt, setD d x t, .e, nb, q, nl, base⟩
  | .n y l r => some ⟨nt, setD d x t, .n y l r, nb, q, nl, base⟩) else none
def stepE (d : Option Tmp) (E : EE) (s : Es) : Option Es :=
 match E, s with
 | ⟨x, fr, mods, _, _⟩, ⟨nt, t, m, nb, q, nl, base⟩ => match mods with
  | [] => (match fr with
   | [] => some ⟨nt, setD d x t, m, nb, q, nl, base⟩
   | i :: fr => stepM d x (i :: fr) [] nt t m nb q nl base)
  | p :: mods => stepM d x fr (p :: mods) nt t m nb q nl base
theorem stepE_spec {d : Option Tmp} {E : EE} {s s' : Es} (h : stepE d E s = some s') : roOK E.mods = true ∧ s' = s.app d E := by
 obtain ⟨nt, t, m, nb, q, nl, base⟩ := s
 obtain ⟨x, fr, mods, rs, rb⟩ := E
 have key : ∀ fr mods, stepM d x fr mods nt t m nb q nl base = some s' → roOK mods = true ∧ s' = Es.app ⟨nt, t, m, nb, q, nl, base⟩ d ⟨x, fr, mods, rs, rb⟩ := fun fr mods h => by
  unfold stepM at h
  cases hr : roOK mods with
  | false => rw [hr] at h; cases h
  | true =>
   rw [hr, cond_true, forceV_eq, forceN_eq] at h
   refine ⟨rfl, ?_⟩
   cases hm : setMs mods m with
   | e =>
    rw [hm] at h
    rw [← Option.some.inj h, ← hm]; rfl
   | n y l r =>
    rw [hm] at h
    rw [← Option.some.inj h, ← hm]; rfl
 cases mods with
 | nil =>
  cases fr with
  | nil => exact ⟨rfl, (Option.some.inj h).symm⟩
  | cons i fr => exact key _ _ h
 | cons p mods => exact key _ _ h
def putE (d : Option Tmp) (v : EV) (s : Es) : Option Es :=
 match s with
 | ⟨nt, t, m, nb, q, nl, base⟩ => forceV v fun v => some ⟨nt, setD d v t, m, nb, q, nl, base⟩
theorem putE_rel {L : Nat → Nat} {d : Option Tmp} {v : EV} {s s' : Es} {σ : Sg} (h : putE d v s = some s') (hR : Rel L s σ) : Rel L s' (σ.put d (v.re L)) ∧ Fol L L s s' σ (σ.put d (v.re L)) := by
 obtain ⟨nt, t, m, nb, q, nl, base⟩ := s
 simp only [putE, forceV_eq, Option.some.injEq] at h
 subst h
 cases d with
 | none => exact ⟨⟨hR.nt, hR.t, hR.m, hR.nb, hR.d, hR.q, hR.qq, hR.qb, hR.g⟩, ⟨fun _ _ => rfl, Nat.le_refl _, rfl, rfl, rfl, fun _ _ _ h => h, rfl, fun _ _ _ h => h, fun _ _ _ _ h => h⟩⟩
 | some d =>
  refine ⟨⟨hR.nt, fun k y hk => ?_, hR.m, hR.nb, hR.d, hR.q, hR.qq, hR.qb, hR.g⟩, ⟨fun _ _ => rfl, Nat.le_refl _, rfl, rfl, rfl, fun _ _ _ h => h, rfl, fun _ _ _ h => h, fun _ _ _ _ h => h⟩⟩
  rcases Tr.set_get _ _ _ _ _ _ hk with ⟨rfl, rfl⟩ | ⟨h1, h2⟩
  · exact lk_cons_eq
  · exact (lk_cons_ne h1).trans (hR.t k y h2)
def Es.nt' : Es → Nat
 | ⟨nt, _, _, _, _, _, _⟩ => nt
def CeOK : Prop := ∀ (k : Nat) (args : List EV) (s : Es) (E : EE), ce k args s = some E → ∀ (L : Nat → Nat) (σ : Sg), Rel L s σ → σ.Ok → SV.lts σ.nb (EV.res L args) = true → T.fn k = true ∧ EfOK σ (E.re L) ∧ CallOK P σ k (EV.res L args) (E.re L)
variable {ty fnT orc ce ih}
variable (hty : ∀ k ti, ty.f k = some ti → T.ty k = some ti) (hfn : FnOK P T fnT) (horc : OrcOK P T orc) (hce : CeOK T ce) (hm : P.follows .mixedOrders = true) (hS : Sound P ih)
theorem calleeE_spec {s : Es} {σ : Sg} {L : Nat → Nat} (hR : Rel L s σ) {f : Operand} {k : Nat} {first cap : List EV} (h : calleeE s f = some (.inl (k, first, cap))) :
 ∃ sf, gv σ f = some sf ∧ (∀ β, sf.c β = .func (.func k) (SV.cs β (EV.res L first)).toArray (SV.cs β (EV.res L cap)).toArray) ∧ (sf.lt σ.nb = true → SV.lts σ.nb (EV.res L first) = true ∧ SV.lts σ.nb (EV.res L cap) = true) := by
 unfold calleeE at h
 split at h
 · cases h
 · rename_i k' cap' hf
   simp only [Option.some.injEq, Sum.inl.injEq, Prod.mk.injEq] at h
   obtain ⟨rfl, rfl, rfl⟩ := h
   exact ⟨_, egv_gv hR hf, fun β => rfl, fun h => ⟨rfl, h⟩⟩
 · rename_i k' first' hf
   simp only [Option.some.injEq, Sum.inl.injEq, Prod.mk.injEq] at h
   obtain ⟨rfl, rfl, rfl⟩ := h
   exact ⟨_, egv_gv hR hf, fun β => rfl, fun h => ⟨h, rfl⟩⟩
 · rename_i k' first' cap' hf
   split at h
   · rename_i h1 h2
     simp only [Option.some.injEq, Sum.inl.injEq, Prod.mk.injEq] at h
     obtain ⟨rfl, rfl, rfl⟩ := h
     obtain rfl : first' = #[] := Array.toList_eq_nil_iff.1 h1
     obtain rfl : cap' = #[] := Array.toList_eq_nil_iff.1 h2
     exact ⟨_, egv_gv hR hf, fun β => rfl, fun h => ⟨rfl, rfl⟩⟩
   · cases h
 · cases h
theorem calleeE_yield {s : Es} {σ : Sg} {L : Nat → Nat} (hR : Rel L s σ) {f : Operand} {n : Nat} (h : calleeE s f = some (.inr n)) : gv σ f = some (.v (.func (.yield (L n)) #[] #[])) := by
 unfold calleeE at h
 split at h
 · rename_i n' hf
   simp only [Option.some.injEq, Sum.inr.injEq] at h
   subst h
   exact egv_gv hR hf
 · cases h
 · cases h
 · split at h <;> cases h
 · cases h
def StepOK (F : Fence) (n : Nat) (ops : Array Oper) (o : Oper) (L : Nat → Nat) (s : Es) (σ : Sg) : StR → Prop
 | .ef E => GoodE F n P ops o σ (E.re L)
 | .st v s' => StGood F n P ops o σ (some fun sv σ' => ∃ L', Rel L' s' σ' ∧ Fol L L' s s' σ σ' ∧ sv = v.re L')
include hty hfn horc hce hm hS in
theorem runOp_sound {F : Fence} {n : Nat} {ops : Array Oper} {o : Oper} {gs : List Nat} {σ : Sg} {L : Nat → Nat} {s : Es} {r : StR} {pure : Bool} (hF : Wd F) (hok : σ.Ok) (hR : Rel L s σ) (hg : Gd ops o gs σ)
 (h : runOp ty fnT orc ce ih pure o gs s = some r) : StepOK (P := P) F n ops o L s σ r := by
 unfold runOp at h
 split at h
 · rename_i dst f args ts typ pos after gd
   split at h
   · rename_i k l hc hl
     split at h
     · rename_i v s' hy
       simp only [Option.some.injEq] at h
       subst h
       have hl' := egvs_gvs hR hl
       have hargs := gvs_lt hok.wf hl'
       obtain ⟨ks, hks, hc'⟩ := yield_sound hm hS hy hR hok hargs
       simp only [Option.some.injEq] at hks
       subst hks
       exact call_yield (n := n) hF hok hg (calleeE_yield hR hc) hl' rfl hc'
     · cases h
   · rename_i k first cap l hc hl
     have hl' := egvs_gvs hR hl
     have hargs := gvs_lt hok.wf hl'
     obtain ⟨sf, q1, q2, q3⟩ := calleeE_spec hR hc
     obtain ⟨hcf, hcl⟩ := q3 (hok.wf.gv q1)
     have hall : SV.lts σ.nb (EV.res L (appE first (appE l cap))) = true := by rw [appE_eq, EV.res_append, appE_eq, EV.res_append]; exact lts_append hcf (lts_append hargs hcl)
     simp only at h
     split at h
     · rename_i v hv
       simp only [Option.some.injEq] at h
       subst h
       obtain ⟨o1, o2⟩ := horc _ _ _ hv
       refine ⟨efOK_pure rfl, call_opF T hF hok.lt hg q1 q2 o1 hl' (fun k hk => by simp [EE.re, hk]) (fun k hk => by simp only [EE.re]; exact List.mem_append_right _ hk) ?_⟩
       intro β w _ _ _
       have h2 := o2 L β w
       rw [appE_eq, EV.res_append, appE_eq, EV.res_append] at h2
       refine h2.mono fun e w' ⟨he, hb⟩ => ⟨β, he, ⟨fun _ _ => rfl, ⟨hb.os, hb.tape, hb.output, hb.size, fun b hb' _ => hb.block b hb'⟩, fun i b hi => (by cases hi), fun i hi => (by cases hi), fun i hi => (by cases hi)⟩⟩
     · split at h
       · split at h
         · rename_i v fr mods rs0 rb hcv
           simp only [Option.some.injEq] at h
           subst h
           obtain ⟨c1, c2, c3⟩ := hce _ _ _ _ hcv L σ hR hok hall
           rw [appE_eq, EV.res_append, appE_eq, EV.res_append] at c3
           exact ⟨⟨c2.fr, c2.val, c2.mods, c2.old, c2.once⟩, call_opF T hF hok.lt hg q1 q2 c1 hl' (fun k hk => by simp [EE.re, hk]) (fun k hk => by simp only [EE.re]; exact List.mem_append_right _ hk) (c3.rs _)⟩
         · cases h
       · split at h
         · rename_i v s' hcv
           simp only [Option.some.injEq] at h
           subst h
           have hst := call_sound T hty hfn hm hS hcv hR hok hall
           rw [appE_eq, EV.res_append, appE_eq, EV.res_append] at hst
           have hk : T.fn k = true := by
            unfold exCall at hcv
            obtain ⟨nt, t, m, nb, q, nl, base⟩ := s
            split at hcv
            · rename_i hf
              obtain ⟨fn, _, _, _, _, f5⟩ := hfn _ _ hf
              exact f5
            · cases hcv
           exact call_stF (n := n) T hF hok hg q1 q2 hk hl' rfl hst
         · cases h
   · cases h
 · split at h
   · rename_i E hE
     simp only [Option.some.injEq] at h
     subst h
     exact eo_good T hty hF hok hR hg hE
   · cases h
include hty hfn horc hce hm hS in
theorem runG_sound {F : Fence} {n : Nat} {ops : Array Oper} {o : Oper} {σ : Sg} {L : Nat → Nat} {s : Es} {r : StR} {pure : Bool} {L0 : List Oper} (hF : Wd F) (hL : ops.toList = L0) (hok : σ.Ok) (hR : Rel L s σ)
 (h : runG ty fnT orc ce ih pure L0 o s = some r) : StepOK (P := P) F n ops o L s σ r := by
 have hget : ∀ j : Nat, ops[j]? = L0[j]? := fun j => by rw [← hL, Array.getElem?_toList]
 have htg : ∀ k x, s.tget k = some x → lk σ.t k = some (x.re L) := fun k x hk => by obtain ⟨nt, t, m, nb, q, nl, base⟩ := s; exact hR.t k x hk
 unfold runG at h
 split at h
 · rename_i hg
   exact runOp_sound T hty hfn horc hce hm hS hF hok hR (.inl hg) h
 · rename_i j want hg
   split at h
   · rename_i k hk
     have hk' : (ops[j]?).bind (·.dst) = some k := by rw [hget]; exact hk
     split at h
     · rename_i hl
       have hl' := htg _ _ hl
       cases want with
       | true => exact runOp_sound T hty hfn horc hce hm hS hF hok hR (.inr ⟨j, true, k, hg, hk', by simp, hl'⟩) h
       | false =>
        simp only [Option.some.injEq] at h
        subst h
        exact ⟨efOK_pure rfl, skip_op (want := false) hF hg hk' hl' hok.lt⟩
     · rename_i hl
       have hl' := htg _ _ hl
       cases want with
       | false => exact runOp_sound T hty hfn horc hce hm hS hF hok hR (.inr ⟨j, false, k, hg, hk', by simp, hl'⟩) h
       | true =>
        simp only [Option.some.injEq] at h
        subst h
        exact ⟨efOK_pure rfl, skip_op (want := true) hF hg hk' hl' hok.lt⟩
     · rename_i hl
       have hl' := htg _ _ hl
       simp only [Option.some.injEq] at h
       subst h
       exact ⟨efOK_pure rfl, skip_undef hF hg hk' hl' hok.lt⟩
     · cases h
   · cases h
variable (ty fnT orc ce ih) in
def eOps (L0 : List Oper) : List Oper → Es → Option Es
 | [], s => some s
 | o :: r, s => match dstB o s.nt' with
  | true => (match runG ty fnT orc ce ih false L0 o s with
   | some (.ef E) => (match stepE o.dst E s with
    | some s' => eOps L0 r s'
    | none => none)
   | some (.st v s1) => (match putE o.dst v s1 with
    | some s' => eOps L0 r s'
    | none => none)
   | none => none)
  | false => none
include hty hfn horc hce hm hS in
theorem eOps_sound {F : Fence} {n : Nat} {ops : Array Oper} {L0 : List Oper} {X : Cx} {Q : Exit → Act → World → Prop} (hF : Wd F) (hL : ops.toList = L0) :
 ∀ (l : List Oper) (j : Nat) (s sf : Es) (L : Nat → Nat) (σ : Sg) (a : Act) (w : World), (∀ i, ops[j + i]? = l[i]?) → eOps ty fnT orc ce ih L0 l s = some sf → Rel L s σ → σ.Ok → Sat X σ a w →
  (∀ L' σ' a w, Rel L' sf σ' → Fol L L' s sf σ σ' → σ'.Ok → Sat X σ' a w → Q .normal a w) → wpOpsIn F n P ops Q (List.range' j l.length) a w
 | [], j, s, sf, L, σ, a, w, _, h, hR, hok, hs, hQ => by
  simp only [eOps, Option.some.injEq] at h
  subst h
  exact hQ L σ a w hR (Fol.refl L s σ) hok hs
 | o :: r, j, s, sf, L, σ, a, w, hops, h, hR, hok, hs, hQ => by
  simp only [eOps] at h
  split at h
  · rename_i hd
    have hnt : s.nt' = σ.nt := by rw [hR.nt]; rfl
    rw [hnt] at hd
    have hd := dstB_spec hd
    have h0 : ops[j]? = some o := by simpa using hops 0
    have hr : ∀ i, ops[j + 1 + i]? = r[i]? := fun i => by
     have := hops (i + 1)
     rw [show j + 1 + i = j + (i + 1) from by omega, this]
     simp
    simp only [List.length_cons, List.range'_succ, wpOpsIn, h0]
    split at h
    · rename_i E hE
      split at h
      · rename_i s' hs'
        obtain ⟨hro, rfl⟩ := stepE_spec hs'
        obtain ⟨h5, h6⟩ := runG_sound T hty hfn horc hce hm hS (n := n) hF hL hok hR hE
        refine ((h5.link hok.wf hd h6).step hs Q).mono fun a' w' hsat => ?_
        refine eOps_sound hF hL r (j + 1) _ sf L _ a' w' hr h (hR.app o.dst E) (hok.app (o := o) h5 hd) hsat fun L' σ' a2 w2 g1 g2 g3 g4 => ?_
        exact hQ L' σ' a2 w2 g1 ((Fol.app o.dst E hro).trans g2) g3 g4
      · cases h
    · rename_i v s1 hE
      split at h
      · rename_i s' hs'
        obtain ⟨ks, hks, hst⟩ := runG_sound T hty hfn horc hce hm hS (n := n) hF hL hok hR hE
        simp only [Option.some.injEq] at hks
        subst hks
        refine (hst X Q a w hd hs).mono fun a' w' ⟨sv, σ1, ⟨L1, q1, q2, q3⟩, hs1, hok1, hn1, hsat⟩ => ?_
        subst q3
        obtain ⟨p1, p2⟩ := putE_rel (L := L1) hs' q1
        refine eOps_sound hF hL r (j + 1) _ sf L1 _ a' w' hr h p1 (hok1.put hs1 fun d hd' => by rw [hn1]; exact hd d hd') hsat fun L' σ' a2 w2 g1 g2 g3 g4 => ?_
        exact hQ L' σ' a2 w2 g1 ((q2.trans p2).trans g2) g3 g4
      · cases h
    · cases h
  · cases h
end
end
end Go.Proofs.YtkbfcofifhngfaaGreat.Tx
namespace Go.Proofs.YtkbfcofifhngfaaGreat.Tx
open Go Go.RowKit
noncomputable section
set_option linter.unusedVariables false
set_option linter.unusedSimpArgs false
set_option linter.unusedSectionVars false
mutual
def EV.av (fr : List Nat) : EV → Bool
 | .v _ => true
 | .ptr i _ => nin i fr
 | .sl i _ _ _ => nin i fr
 | .os i j _ => nin i fr && nin j fr
 | .agg l => EV.avs fr l
 | .fn _ cap => EV.avs fr cap
 | .mv _ cap => EV.avs fr cap
 | .tup l => EV.avs fr l
 | .yl _ => true
def EV.avs (fr : List Nat) : List EV → Bool
 | [] => true
 | x :: r => EV.av fr x && EV.avs fr r
end
mutual
theorem EV.av_re (L : Nat → Nat) (fr : List Nat) : ∀ x : EV, (x.re L).av fr = x.av fr
 | .v _ => rfl
 | .ptr _ _ => rfl
 | .sl _ _ _ _ => rfl
 | .os _ _ _ => rfl
 | .agg l => by simp only [EV.re, SV.av, EV.av, EV.avs_re L fr l]
 | .fn _ l => by simp only [EV.re, SV.av, EV.av, EV.avs_re L fr l]
 | .mv _ l => by simp only [EV.re, SV.av, EV.av, EV.avs_re L fr l]
 | .tup l => by simp only [EV.re, SV.av, EV.av, EV.avs_re L fr l]
 | .yl _ => rfl
theorem EV.avs_re (L : Nat → Nat) (fr : List Nat) : ∀ l : List EV, SV.avs fr (EV.res L l) = EV.avs fr l
 | [] => rfl
 | x :: r => by simp only [EV.res, SV.avs, EV.avs, EV.av_re L fr x, EV.avs_re L fr r]
end
def EB.av (fr : List Nat) : EB → Bool
 | .gone => true
 | .cells l _ _ => EV.avs fr l
 | .big t n _ _ => EV.avs fr (t.toL n 0)
 | .grow j _ _ xs _ => nin j fr && EV.avs fr xs
theorem EB.av_re (L : Nat → Nat) (fr : List Nat) (b : EB) : (b.re L).av fr = b.av fr := by
 cases b <;> simp only [EB.re, Blk.av, EB.av, EV.avs_re]
def ninMods (l : List Nat) : List (Nat × EB) → Bool
 | [] => true
 | (i, _) :: r => nin i l && ninMods l r
def avMods (fr : List Nat) : List (Nat × EB) → Bool
 | [] => true
 | (i, b) :: r => nin i fr && b.av fr && avMods fr r
def keysM : List (Nat × EB) → List Nat
 | [] => []
 | (i, _) :: r => i :: keysM r
theorem keysM_re (L : Nat → Nat) : ∀ l : List (Nat × EB), (remods L l).map (·.1) = keysM l
 | [] => rfl
 | (i, b) :: r => by simp only [remods, List.map_cons, keysM, keysM_re L r]
def apartE (pj pk : Oper × EE) : Bool :=
 (match pk.1.dst with
  | some d => nin d pj.2.rs && (match pj.1.dst with | some d' => !(Nat.beq d d') | none => true)
  | none => true) &&
 (match pk.2.mods with
  | [] => true
  | m => ninMods pj.2.rb m && ninMods (keysM pj.2.mods) m)
def avE (pj pk : Oper × EE) : Bool :=
 match pj.2.fr with
 | [] => true
 | fr => pk.2.val.av fr && avMods fr pk.2.mods
theorem ninMods_all (L : Nat → Nat) (a b : List Nat) : ∀ m : List (Nat × EB), (remods L m).all (fun x => nin x.1 a && nin x.1 b) = (ninMods a m && ninMods b m)
 | [] => rfl
 | (i, x) :: r => by
  simp only [remods, List.all_cons, ninMods, ninMods_all L a b r]
  cases nin i a <;> cases nin i b <;> cases ninMods a r <;> cases ninMods b r <;> rfl
theorem avMods_all (L : Nat → Nat) (a : List Nat) : ∀ m : List (Nat × EB), (remods L m).all (fun x => nin x.1 a && x.2.av a) = avMods a m
 | [] => rfl
 | (i, x) :: r => by simp only [remods, List.all_cons, avMods, avMods_all L a r, EB.av_re]
theorem apartE_re (L : Nat → Nat) (pj pk : Oper × EE) : apartB (pj.1, pj.2.re L) (pk.1, pk.2.re L) = apartE pj pk := by
 obtain ⟨oj, ⟨vj, fj, mj, rj, bj⟩⟩ := pj
 obtain ⟨ok, ⟨vk, fk, mk, rk, bk⟩⟩ := pk
 simp only [apartB, apartE, EE.re, keysM_re, ninMods_all]
 cases mk <;> rfl
theorem avE_re (L : Nat → Nat) (pj pk : Oper × EE) (h : avE pj pk = true) : avB (pj.1, pj.2.re L) (pk.1, pk.2.re L) = true := by
 obtain ⟨oj, ⟨vj, fj, mj, rj, bj⟩⟩ := pj
 obtain ⟨ok, ⟨vk, fk, mk, rk, bk⟩⟩ := pk
 simp only [avB, EE.re, EV.av_re, avMods_all]
 cases fj with
 | nil =>
  have h1 : EV.av [] vk = true := by rw [← EV.av_re L]; exact SV.av_nil _
  have h2 : ∀ m : List (Nat × EB), avMods [] m = true := fun m => by
   induction m with
   | nil => rfl
   | cons p r ih =>
    obtain ⟨i, b⟩ := p
    have h3 : EB.av [] b = true := by rw [← EB.av_re L]; exact Blk.av_nil _
    simp only [avMods, nin, h3, ih, Bool.and_self]
  rw [h1, h2]; rfl
 | cons x r => exact h
def pairE (bs : List Nat) (j k : Nat) (pj pk : Oper × EE) : Bool :=
 Nat.beq j k || (((bs.getD j 0).testBit k || (bs.getD k 0).testBit j || apartE pj pk) && ((bs.getD k 0).testBit j || avE pj pk))
theorem pairE_re (L : Nat → Nat) {bs : List Nat} {j k : Nat} {pj pk : Oper × EE} (h : pairE bs j k pj pk = true) : pairB bs j k (pj.1, pj.2.re L) (pk.1, pk.2.re L) = true := by
 simp only [pairE, Bool.or_eq_true, Bool.and_eq_true] at h
 simp only [pairB, Bool.or_eq_true, Bool.and_eq_true, apartE_re]
 rcases h with h | ⟨h1, h2⟩
 · exact .inl h
 · refine .inr ⟨h1, ?_⟩
   rcases h2 with h2 | h2
   · exact .inl h2
   · exact .inr (avE_re L pj pk h2)
def rowE (bs : List Nat) (j : Nat) (pj : Oper × EE) : Nat → List (Oper × EE) → Bool
 | _, [] => true
 | k, pk :: r => pairE bs j k pj pk && rowE bs j pj (Nat.succ k) r
def allE (bs : List Nat) (lo : Nat) (A : List (Oper × EE)) : Nat → List (Oper × EE) → Bool
 | _, [] => true
 | j, pj :: r => rowE bs j pj lo A && allE bs lo A (Nat.succ j) r
theorem rowE_get {bs : List Nat} {j : Nat} {pj : Oper × EE} : ∀ {l : List (Oper × EE)} {k0 k : Nat} {pk : Oper × EE}, rowE bs j pj k0 l = true → l[k]? = some pk → pairE bs j (k0 + k) pj pk = true
 | [], _, _, _, _, h => by simp at h
 | p :: r, k0, 0, pk, h, hk => by
  simp only [List.getElem?_cons_zero, Option.some.injEq] at hk
  subst hk
  simp only [rowE, Bool.and_eq_true] at h
  exact h.1
 | p :: r, k0, k + 1, pk, h, hk => by
  simp only [rowE, Bool.and_eq_true] at h
  have := rowE_get (l := r) h.2 (by simpa using hk)
  rwa [show k0.succ + k = k0 + (k + 1) from by omega] at this
theorem allE_get {bs : List Nat} {lo : Nat} {A : List (Oper × EE)} : ∀ {l : List (Oper × EE)} {j0 j : Nat} {pj : Oper × EE}, allE bs lo A j0 l = true → l[j]? = some pj → rowE bs (j0 + j) pj lo A = true
 | [], _, _, _, _, h => by simp at h
 | p :: r, j0, 0, pj, h, hk => by
  simp only [List.getElem?_cons_zero, Option.some.injEq] at hk
  subst hk
  simp only [allE, Bool.and_eq_true] at h
  exact h.1
 | p :: r, j0, j + 1, pj, h, hk => by
  simp only [allE, Bool.and_eq_true] at h
  have := allE_get (l := r) h.2 (by simpa using hk)
  rwa [show j0.succ + j = j0 + (j + 1) from by omega] at this
def barB (hi : Nat) : List Nat → Nat → Bool
 | [], _ => true
 | b :: r, j => (Nat.blt j hi || Nat.beq (Nat.land b (Nat.sub (Nat.pow 2 hi) 1)) (Nat.sub (Nat.pow 2 hi) 1)) && barB hi r (Nat.succ j)
theorem barB_get {hi : Nat} : ∀ {bs : List Nat} {j0 j : Nat}, barB hi bs j0 = true → j < bs.length → hi ≤ j0 + j → ∀ i, i < hi → (bs.getD j 0).testBit i = true
 | [], _, _, _, h, _, _, _ => by simp at h
 | b :: r, j0, 0, h, _, hj, i, hi' => by
  simp only [barB, Bool.and_eq_true, Bool.or_eq_true, Nat.blt_eq] at h
  have h1 := h.1.resolve_left (by omega)
  have h1 := Nat.eq_of_beq_eq_true h1
  have h2 : (b &&& (2 ^ hi - 1)).testBit i = (2 ^ hi - 1).testBit i := congrArg (fun n => n.testBit i) h1
  rw [Nat.testBit_and, Nat.testBit_two_pow_sub_one] at h2
  simp only [hi', decide_true, Bool.and_true] at h2
  simpa using h2
 | b :: r, j0, j + 1, h, hl, hj, i, hi' => by
  simp only [barB, Bool.and_eq_true] at h
  have := barB_get (bs := r) (j0 := j0.succ) (j := j) h.2 (by simpa using hl) (by omega) i hi'
  simpa using this
def dumP : Oper × Ef := (⟨none, .move (.const undef), 0, "", #[], none⟩, ⟨.v undef, [], [], [], []⟩)
theorem fin_append (σ : Sg) : ∀ (A B : List (Oper × Ef)), fin (A ++ B) σ = fin B (fin A σ) := by
 intro A
 induction A generalizing σ with
 | nil => intro B; rfl
 | cons p r ih => intro B; obtain ⟨o, E⟩ := p; exact ih _ B
theorem fin_dum (σ : Sg) : ∀ n : Nat, fin (List.replicate n dumP) σ = σ := by
 intro n
 induction n with
 | zero => rfl
 | succ n ih =>
  rw [List.replicate_succ]
  show fin (List.replicate n dumP) (σ.app none ⟨.v undef, [], [], [], []⟩) = σ
  have : σ.app none ⟨.v undef, [], [], [], []⟩ = σ := app_dum (p := dumP) rfl rfl rfl
  rw [this]; exact ih
def reP (L : Nat → Nat) (p : Oper × EE) : Oper × Ef := (p.1, p.2.re L)
section
variable {P : Program} (T : Env P) {ty : Ty P} {fnT : Nat → Option FnI} {orc : Nat → List EV → Option Value} {ce : Nat → List EV → Es → Option EE} {ih : Code → Es → Option (Exit × Es)}
variable (ty fnT orc ce ih) in
def eOpsD (L0 : List Oper) (bs : List Nat) : List Oper → Nat → Nat → Es → List (Oper × EE) → Option Es
 | [], j, lo, s, acc => bif allE bs lo acc lo acc then some s else none
 | o :: r, j, lo, s, acc => match dstB o s.nt' with
  | true => (match runG ty fnT orc ce ih (!(barB j bs 0 && barB (Nat.succ j) bs 0)) L0 o s with
   | some (.ef E) => (match stepE o.dst E s with
    | some s' => eOpsD L0 bs r (Nat.succ j) lo s' (acc ++ [(o, E)])
    | none => none)
   | some (.st v s1) => bif barB j bs 0 && barB (Nat.succ j) bs 0 && allE bs lo acc lo acc then (match putE o.dst v s1 with
    | some s' => eOpsD L0 bs r (Nat.succ j) (Nat.succ j) s' []
    | none => none) else none
   | none => none)
  | false => none
variable (hty : ∀ k ti, ty.f k = some ti → T.ty k = some ti) (hfn : FnOK P T fnT) (horc : OrcOK P T orc) (hce : CeOK T ce) (hm : P.follows .mixedOrders = true) (hS : Sound P ih)
theorem seg_step {F : Fence} {n : Nat} {ops : Array Oper} {X : Cx} {Q : Exit → Act → World → Prop} {L0 : List Oper} (hL : ops.toList = L0) (he : edgesB 0 L0 = true) {lo hi : Nat} {acc : List (Oper × EE)} {L : Nat → Nat} {σ0 : Sg} (hok0 : σ0.Ok)
 (hlo : hi = lo + acc.length) (hhi : hi ≤ ops.size) (hops : ∀ i, i < acc.length → ops[lo + i]? = (acc[i]?).map (·.1))
 (hlinks : ∀ i p, acc[i]? = some p → Link F n P ops p.1 (fin ((acc.take i).map (reP L)) σ0) (p.2.re L)) (hfr : ∀ p ∈ acc, ∃ m, σ0.nb ≤ m ∧ p.2.fr = List.range' m p.2.fr.length)
 (hall : allE (bef L0 []) lo acc lo acc = true) (hbar : hi < ops.size → barB hi (bef L0 []) 0 = true)
 (hcont : ∀ (listed : Array Bool) (a : Act) (w : World), listed.size = ops.size → (∀ j, j < hi → listed.getD j false = true) → (∀ j, hi ≤ j → j < ops.size → listed.getD j false = false) →
  (∀ j, listed.getD j false = true → ∀ o, ops.toList[j]? = some o → ∀ e ∈ o.after, Region.binds .any e = true → listed.getD e.on false = true) → Sat X (fin (acc.map (reP L)) σ0) a w → wpAnyIn F n P .any ops Q (ops.size - hi) listed a w) :
 ∀ (listed : Array Bool) (a : Act) (w : World), listed.size = ops.size → (∀ j, j < lo → listed.getD j false = true) → (∀ j, lo ≤ j → j < ops.size → listed.getD j false = false) →
  (∀ j, listed.getD j false = true → ∀ o, ops.toList[j]? = some o → ∀ e ∈ o.after, Region.binds .any e = true → listed.getD e.on false = true) → Sat X σ0 a w → wpAnyIn F n P .any ops Q (ops.size - lo) listed a w := by
 intro listed a w hls hbelow habove hdown hsat
 let LL : List (Oper × Ef) := List.replicate lo dumP ++ (acc.map (reP L) ++ List.replicate (ops.size - hi) dumP)
 have hLL : LL.length = ops.size := by simp only [LL, List.length_append, List.length_replicate, List.length_map]; omega
 have hget1 : ∀ i, i < lo → LL[i]? = some dumP := fun i hi' => by
  simp only [LL]
  rw [List.getElem?_append_left (by simpa using hi'), List.getElem?_replicate, if_pos hi']
 have hget2 : ∀ i, lo ≤ i → i < hi → LL[i]? = (acc[i - lo]?).map (reP L) := fun i h1 h2 => by
  simp only [LL]
  rw [List.getElem?_append_right (by simpa using h1), List.length_replicate, List.getElem?_append_left (by simp only [List.length_map]; omega), List.getElem?_map]
 have hget3 : ∀ i p, hi ≤ i → LL[i]? = some p → p = dumP := fun i p h1 h2 => by
  simp only [LL] at h2
  rw [List.getElem?_append_right (by simp only [List.length_replicate]; omega), List.length_replicate, List.getElem?_append_right (by simp only [List.length_map]; omega), List.getElem?_replicate] at h2
  split at h2
  · exact (Option.some.inj h2).symm
  · cases h2
 have hfinL : ∀ i, lo ≤ i → i ≤ hi → fin (LL.take i) σ0 = fin ((acc.take (i - lo)).map (reP L)) σ0 := fun i h1 h2 => by
  have : LL.take i = List.replicate lo dumP ++ (acc.take (i - lo)).map (reP L) := by
   simp only [LL]
   rw [List.take_append, List.length_replicate, List.take_of_length_le (by simpa using h1), List.take_append, List.length_map, show i - lo - acc.length = 0 from by omega, List.take_zero, List.append_nil, List.map_take]
  rw [this, fin_append, fin_dum]
 have hlist0 : listed.toList = List.replicate lo true ++ List.replicate (ops.size - lo) false := by
  apply List.ext_getElem?
  intro j
  rcases Nat.lt_or_ge j lo with hj | hj
  · have h1 := hbelow j hj
    have hjs : j < listed.size := by omega
    simp only [Array.getD_eq_getD_getElem?, Array.getElem?_eq_getElem hjs, Option.getD_some] at h1
    rw [List.getElem?_append_left (by simpa using hj), List.getElem?_replicate, if_pos hj, Array.getElem?_toList, Array.getElem?_eq_getElem hjs, h1]
  · rw [List.getElem?_append_right (by simpa using hj), List.getElem?_replicate, List.length_replicate, Array.getElem?_toList]
    rcases Nat.lt_or_ge j ops.size with hjl | hjl
    · have h1 := habove j hj hjl
      have hjs : j < listed.size := by omega
      simp only [Array.getD_eq_getD_getElem?, Array.getElem?_eq_getElem hjs, Option.getD_some] at h1
      rw [Array.getElem?_eq_getElem hjs, h1, if_pos (by omega)]
    · rw [Array.getElem?_eq_none (by omega), if_neg (by omega)]
 subst hL
 refine region_seg (X := X) (F := F) (n := n) (L := LL) (σ := σ0) (lo := lo) (hi := hi) he hLL.symm (by omega) (fun i h1 h2 => ?_) (fun i p hp hcase => ?_) (fun i p h1 h2 hp => ?_) (fun p hp => ?_) (fun i k pi pk h1 h2 h3 h4 hi' hk' => ?_) (fun j h1 h2 i h3 => ?_)
  (fun listed a w g1 g2 g3 g4 g5 => ?_) _ listed a w (by omega) (by rw [hlist0]; simp [List.countP_append, List.countP_replicate]) hbelow (fun j h1 h2 => habove j (by omega) (by omega)) hdown ?_
 · rw [hget2 i h1 h2]
   have := hops (i - lo) (by omega)
   rw [show lo + (i - lo) = i from by omega] at this
   rw [this]
   cases acc[i - lo]? <;> rfl
 · rcases hcase with h | h
   · rw [hget1 i h, Option.some.injEq] at hp; subst hp; exact ⟨rfl, rfl, rfl⟩
   · obtain rfl := hget3 i p h hp; exact ⟨rfl, rfl, rfl⟩
 · rw [hget2 i h1 h2] at hp
   cases hq : acc[i - lo]? with
   | none => rw [hq] at hp; cases hp
   | some q =>
    rw [hq, Option.map_some, Option.some.injEq] at hp
    subst hp
    rw [hfinL i h1 (by omega)]
    exact hlinks _ q hq
 · have hdd : σ0.Av dumP.2.fr := ⟨fun k s _ => SV.av_nil s, fun k s _ => SV.av_nil s, fun i b _ => ⟨by simp [dumP], Blk.av_nil b⟩⟩
   simp only [LL, List.mem_append] at hp
   rcases hp with hp | hp | hp
   · rw [(List.mem_replicate.1 hp).2]; exact hdd
   · obtain ⟨q, hq, rfl⟩ := List.mem_map.1 hp
     obtain ⟨m, q1, q2⟩ := hfr q hq
     exact hok0.wf.av q1 q2
   · rw [(List.mem_replicate.1 hp).2]; exact hdd
 · rw [hget2 i h1 h2] at hi'
   rw [hget2 k h3 h4] at hk'
   cases hq : acc[i - lo]? with
   | none => rw [hq] at hi'; cases hi'
   | some q =>
    cases hq2 : acc[k - lo]? with
    | none => rw [hq2] at hk'; cases hk'
    | some q' =>
     rw [hq, Option.map_some, Option.some.injEq] at hi'
     rw [hq2, Option.map_some, Option.some.injEq] at hk'
     subst hi' hk'
     have h5 := rowE_get (allE_get hall hq) hq2
     rw [show lo + (i - lo) = i from by omega, show lo + (k - lo) = k from by omega] at h5
     exact pairE_re L h5
 · have hbl : (bef ops.toList []).length = ops.size := by rw [bef_length]; simp
   exact barB_get (hbar (by omega)) (by omega) (by omega) i h3
 · rw [hLL] at g1 g3 ⊢
   refine hcont listed a w g1 g2 g3 g4 ?_
   rw [hfinL hi (by omega) (Nat.le_refl _), show hi - lo = acc.length from by omega, List.take_length] at g5
   exact g5
 · rw [hlist0]
   have h1 := foldS_take LL lo σ0 (by omega)
   rw [hLL] at h1
   rw [h1, hfinL lo (Nat.le_refl _) (by omega), Nat.sub_self]
   exact hsat
end
end
end Go.Proofs.YtkbfcofifhngfaaGreat.Tx
namespace Go.Proofs.YtkbfcofifhngfaaGreat.Tx
open Go Go.RowKit
noncomputable section
set_option linter.unusedVariables false
set_option linter.unusedSimpArgs false
set_option linter.unusedSectionVars false
section
variable {P : Program} (T : Env P) {ty : Ty P} {fnT : Nat → Option FnI} {orc : Nat → List EV → Option Value} {ce : Nat → List EV → Es → Option EE} {ih : Code → Es → Option (Exit × Es)}
variable (hty : ∀ k ti, ty.f k = some ti → T.ty k = some ti) (hfn : FnOK P T fnT) (horc : OrcOK P T orc) (hce : CeOK T ce) (hm : P.follows .mixedOrders = true) (hS : Sound P ih)
include hty hfn horc hce hm hS
theorem eOpsD_sound {F : Fence} {n : Nat} {ops : Array Oper} {X : Cx} {Q : Exit → Act → World → Prop} {L0 : List Oper} (hF : Wd F) (hL : ops.toList = L0) (he : edgesB 0 L0 = true) :
 ∀ (l : List Oper) (j lo : Nat) (s0 s sf : Es) (acc : List (Oper × EE)) (L : Nat → Nat) (σ0 : Sg), (∀ i, ops[j + i]? = l[i]?) → j + l.length = ops.size → j = lo + acc.length →
  eOpsD ty fnT orc ce ih L0 (bef L0 []) l j lo s acc = some sf → σ0.Ok → Rel L s (fin (acc.map (reP L)) σ0) → (fin (acc.map (reP L)) σ0).Ok → Fol L L s0 s σ0 (fin (acc.map (reP L)) σ0) →
  (∀ i, i < acc.length → ops[lo + i]? = (acc[i]?).map (·.1)) → (∀ i p, acc[i]? = some p → Link F n P ops p.1 (fin ((acc.take i).map (reP L)) σ0) (p.2.re L)) → (∀ p ∈ acc, ∃ m, σ0.nb ≤ m ∧ p.2.fr = List.range' m p.2.fr.length) →
  (∀ L' σ' a w, Rel L' sf σ' → Fol L L' s0 sf σ0 σ' → σ'.Ok → Sat X σ' a w → Q .normal a w) →
  ∀ (listed : Array Bool) (a : Act) (w : World), listed.size = ops.size → (∀ j, j < lo → listed.getD j false = true) → (∀ j, lo ≤ j → j < ops.size → listed.getD j false = false) →
   (∀ j, listed.getD j false = true → ∀ o, ops.toList[j]? = some o → ∀ e ∈ o.after, Region.binds .any e = true → listed.getD e.on false = true) → Sat X σ0 a w → wpAnyIn F n P .any ops Q (ops.size - lo) listed a w
 | [], j, lo, s0, s, sf, acc, L, σ0, hops, hlen, hj, h, hok0, hR, hok, hfol, hacc, hlinks, hfr, hQ => by
  simp only [eOpsD] at h
  cases hall : allE (bef L0 []) lo acc lo acc with
  | false => rw [hall] at h; cases h
  | true =>
   rw [hall, cond_true, Option.some.injEq] at h
   subst h
   simp only [List.length_nil, Nat.add_zero] at hlen
   refine seg_step (hi := j) hL he hok0 hj (by omega) hacc hlinks hfr hall (fun h => by omega) fun listed a w g1 g2 g3 g4 g5 => ?_
   have hz : ops.size - j = 0 := by omega
   rw [hz]
   have hnone : Region.ready .any ops listed = [] := by
    rw [List.eq_nil_iff_forall_not_mem]
    intro i hi
    have h0 := (mem_ready.1 hi).1
    obtain ⟨o, ho, _⟩ := (mem_ready.1 hi).2
    have hil : i < ops.size := (Array.getElem?_eq_some_iff.1 ho).1
    have h1 := g2 i (by omega)
    have hil2 : i < listed.size := by omega
    simp only [Array.getD_eq_getD_getElem?, Array.getElem?_eq_getElem hil2, Option.getD_some] at h0 h1
    rw [h0] at h1; cases h1
   exact ⟨hnone, hQ L _ a w hR hfol hok g5⟩
 | o :: r, j, lo, s0, s, sf, acc, L, σ0, hops, hlen, hj, h, hok0, hR, hok, hfol, hacc, hlinks, hfr, hQ => by
  simp only [eOpsD] at h
  split at h
  · rename_i hd
    have hnt : s.nt' = (fin (acc.map (reP L)) σ0).nt := by rw [hR.nt]; rfl
    rw [hnt] at hd
    have hd := dstB_spec hd
    have h0 : ops[j]? = some o := by simpa using hops 0
    have hr : ∀ i, ops[j + 1 + i]? = r[i]? := fun i => by
     have := hops (i + 1)
     rw [show j + 1 + i = j + (i + 1) from by omega, this]
     simp
    simp only [List.length_cons] at hlen
    split at h
    · rename_i E hE
      split at h
      · rename_i s' hs'
        obtain ⟨hro, rfl⟩ := stepE_spec hs'
        obtain ⟨h5, h6⟩ := runG_sound T hty hfn horc hce hm hS (n := n) hF hL hok hR hE
        have hfin : fin ((acc ++ [(o, E)]).map (reP L)) σ0 = (fin (acc.map (reP L)) σ0).app o.dst (E.re L) := by
         rw [List.map_append, fin_append]; rfl
        have hnb : σ0.nb ≤ (fin (acc.map (reP L)) σ0).nb := by
         have key : ∀ (A : List (Oper × Ef)) (σ : Sg), σ.nb ≤ (fin A σ).nb := by
          intro A
          induction A with
          | nil => intro σ; exact Nat.le_refl _
          | cons p r ih => intro σ; obtain ⟨o, E⟩ := p; exact Nat.le_trans (Nat.le_add_right _ _) (ih (σ.app o.dst E))
         exact key _ _
        refine eOpsD_sound hF hL he r (j + 1) lo s0 _ sf (acc ++ [(o, E)]) L σ0 hr (by omega) (by simp; omega) h hok0 (by rw [hfin]; exact hR.app o.dst E) (by rw [hfin]; exact hok.app (o := o) h5 hd)
         (by rw [hfin]; exact hfol.trans (Fol.app o.dst E hro)) (fun i hi => ?_) (fun i p hp => ?_) (fun p hp => ?_) hQ
        · rcases Nat.lt_or_ge i acc.length with hlt | hge
          · rw [List.getElem?_append_left hlt]; exact hacc i hlt
          · simp only [List.length_append, List.length_cons, List.length_nil] at hi
            obtain rfl : i = acc.length := by omega
            rw [List.getElem?_append_right (Nat.le_refl _), Nat.sub_self, ← hj, h0]
            rfl
        · rcases Nat.lt_or_ge i acc.length with hlt | hge
          · rw [List.getElem?_append_left hlt] at hp
            rw [List.take_append_of_le_length (by omega)]
            exact hlinks i p hp
          · rw [List.getElem?_append_right hge] at hp
            have hi0 : i - acc.length = 0 := by
             rcases Nat.eq_zero_or_pos (i - acc.length) with h | h
             · exact h
             · rw [List.getElem?_eq_none (by simp; omega)] at hp; cases hp
            rw [hi0] at hp
            simp only [List.getElem?_cons_zero, Option.some.injEq] at hp
            subst hp
            obtain rfl : i = acc.length := by omega
            rw [List.take_append_of_le_length (Nat.le_refl _), List.take_length]
            exact h5.link hok.wf hd h6
        · rcases List.mem_append.1 hp with hp | hp
          · exact hfr p hp
          · simp only [List.mem_singleton] at hp
            subst hp
            exact ⟨_, hnb, h5.fr⟩
      · cases h
    · rename_i v s1 hE
      cases hc : barB j (bef L0 []) 0 && barB (Nat.succ j) (bef L0 []) 0 && allE (bef L0 []) lo acc lo acc with
      | false => rw [hc] at h; cases h
      | true =>
       rw [hc, cond_true] at h
       simp only [Bool.and_eq_true] at hc
       obtain ⟨⟨hb1, hb2⟩, hall⟩ := hc
       split at h
       · rename_i s' hs'
         obtain ⟨ks, hks, hst⟩ := runG_sound T hty hfn horc hce hm hS (n := n) hF hL hok hR hE
         simp only [Option.some.injEq] at hks
         subst hks
         have hbl : (bef L0 []).length = ops.size := by rw [bef_length, ← hL]; simp
         refine seg_step (hi := j) hL he hok0 hj (by omega) hacc hlinks hfr hall (fun _ => hb1) fun listed a w g1 g2 g3 g4 g5 => ?_
         have hsz : ops.size - j = (ops.size - (j + 1)) + 1 := by omega
         rw [hsz]
         have honly : ∀ i, i ∈ Region.ready .any ops listed → i = j := fun i hi => by
          obtain ⟨q1, o', ho', hall'⟩ := mem_ready.1 hi
          have hil : i < ops.size := (Array.getElem?_eq_some_iff.1 ho').1
          have hil2 : i < listed.size := by omega
          have hge : j ≤ i := Classical.byContradiction fun hlt => by
           have h1 := g2 i (by omega)
           simp only [Array.getD_eq_getD_getElem?, Array.getElem?_eq_getElem hil2, Option.getD_some] at q1 h1
           rw [q1] at h1; cases h1
          rcases Nat.eq_or_lt_of_le hge with h | hgt
          · exact h.symm
          · exfalso
            have hbit := barB_get hb2 (by rw [hbl]; exact hil) (by omega) j (Nat.lt_succ_self _)
            have h1 := (bef_listed (ops := L0) he (fun j => listed.getD j false = true) (by rw [← hL]; exact g4) i i (Nat.le_refl _) o' (by rw [← hL, Array.getElem?_toList]; exact ho') hall' j hbit).1
            have h2 := g3 j (Nat.le_refl _) (by omega)
            rw [h2] at h1; cases h1
         refine ⟨fun hr0 => ?_, fun i hi => ?_⟩
         · exfalso
           have hjs : j < listed.size := by omega
           have hmem : j ∈ Region.ready .any ops listed := by
            rw [mem_ready]
            refine ⟨?_, o, h0, fun e hem hb => ?_⟩
            · have := g3 j (Nat.le_refl _) (by omega)
              simp only [Array.getD_eq_getD_getElem?, Array.getElem?_eq_getElem hjs, Option.getD_some] at this ⊢
              exact this
            · have hlt := edgesB_get _ 0 j o he (by rw [← hL, Array.getElem?_toList]; exact h0) e hem hb
              rw [Nat.zero_add] at hlt
              exact g2 e.on hlt
           rw [hr0] at hmem; cases hmem
         · obtain rfl := honly i hi
           unfold wpOpIn
           rw [h0]
           refine (hst X Q a w hd g5).mono fun a' w' ⟨sv, σ1, ⟨L1, q1, q2, q3⟩, hs1, hok1, hn1, hsat⟩ => ?_
           subst q3
           obtain ⟨p1, p2⟩ := putE_rel (L := L1) hs' q1
           have hok2 := hok1.put hs1 (dst := o.dst) fun d hd' => by rw [hn1]; exact hd d hd'
           refine eOpsD_sound hF hL he r (i + 1) (i + 1) s' s' sf [] L1 _ hr (by omega) (by simp) h hok2 p1 hok2 (Fol.refl _ _ _) (fun i hi => (by simp at hi)) (fun i p hp => (by simp at hp)) (fun p hp => (by cases hp))
            (fun L' σ' a w k1 k2 k3 k4 => hQ L' σ' a w k1 (((hfol.trans q2).trans p2).trans k2) k3 k4) (listed.setIfInBounds i true) a' w' (by simpa using g1) (fun k hk => ?_) (fun k hk hkl => ?_) (fun k hk o' ho' e hem hb => ?_) hsat
           · rcases Nat.lt_or_ge k i with hlt | hge
             · exact getD_set_true (g2 k hlt)
             · obtain rfl : k = i := by omega
               have hks : k < listed.size := by omega
               simp [hks]
           · rw [getD_set_ne false (by omega)]; exact g3 k (by omega) hkl
           · by_cases hki : k = i
             · subst hki
               have hjo : ops.toList[k]? = some o := by rw [Array.getElem?_toList]; exact h0
               rw [hjo, Option.some.injEq] at ho'
               subst ho'
               have hlt := edgesB_get _ 0 k o he (by rw [← hL]; exact hjo) e hem hb
               rw [Nat.zero_add] at hlt
               exact getD_set_true (g2 e.on hlt)
             · rw [getD_set_ne false (fun h => hki h.symm)] at hk
               exact getD_set_true (g4 k hk o' ho' e hem hb)
       · cases h
    · cases h
  · cases h
variable (ty fnT orc ce ih) in
def eRegion (ops : Array Oper) (draw : Bool) (s : Es) : Option Es :=
 match draw with
 | false => eOps ty fnT orc ce ih ops.toList ops.toList s
 | true => bif edgesB 0 ops.toList then eOpsD ty fnT orc ce ih ops.toList (bef ops.toList []) ops.toList 0 0 s [] else none
theorem eRegion_sound {id : Nat} {ops : Array Oper} {draw : Bool} {s sf : Es} {L : Nat → Nat} {σ : Sg} {Φ : Exit → Sg → Prop} (h : eRegion ty fnT orc ce ih ops draw s = some sf) (hR : Rel L s σ)
 (hΦ : ∀ L' σ', Rel L' sf σ' → Fol L L' s sf σ σ' → Φ .normal σ') : VC P (.region id ops draw) σ Φ := by
 intro F n X a w hF hlp hok hsat
 cases draw with
 | false =>
  refine wpIn_region ?_
  have := eOps_sound T hty hfn horc hce hm hS (F := F) (n := n) (ops := ops) (X := X) (Q := QΦ X Φ) hF rfl _ 0 s sf L σ a w (fun i => by rw [Nat.zero_add, Array.getElem?_toList]) h hR hok hsat fun L' σ' a w h1 h2 h3 h4 => ⟨σ', hΦ L' σ' h1 h2, h3, h4⟩
  rwa [← List.range_eq_range', Array.length_toList] at this
 | true =>
  simp only [eRegion] at h
  cases he : edgesB 0 ops.toList with
  | false => rw [he] at h; cases h
  | true =>
   rw [he, cond_true] at h
   refine wpIn_region_any hm ?_
   obtain ⟨β, D, hs⟩ := hsat
   have := eOpsD_sound T hty hfn horc hce hm hS (F := F) (n := n) (ops := ops) (X := X) (Q := QΦ X Φ) hF rfl he ops.toList 0 0 s s sf [] L σ (fun i => by rw [Nat.zero_add, Array.getElem?_toList]) (by simp) (by simp) h hok hR hok (Fol.refl _ _ _)
    (fun i hi => (by simp at hi)) (fun i p hp => (by simp at hp)) (fun p hp => (by cases hp)) (fun L' σ' a w h1 h2 h3 h4 => ⟨σ', hΦ L' σ' h1 h2, h3, h4⟩)
    (Array.replicate ops.size false) a { w with drawn := w.drawn + 1 } (by simp) (fun j hj => by omega) (fun j hj hjl => by simp [hjl]) (fun j hj => ?_) ⟨β, D, hs.drawn (w.drawn + 1)⟩
   · simpa using this
   · exfalso
     rcases Nat.lt_or_ge j ops.size with h | h
     · simp [h] at hj
     · simp [h] at hj
end
end
end Go.Proofs.YtkbfcofifhngfaaGreat.Tx
namespace Go.Proofs.YtkbfcofifhngfaaGreat.Tx
open Go Go.RowKit
noncomputable section
set_option linter.unusedVariables false
set_option linter.unusedSimpArgs false
set_option linter.unusedSectionVars false
def LoopN (F : Fence) (n : Nat) (P : Program) (c : Code) (Q : Exit → Act → World → Prop) : Nat → Act → World → Prop
 | 0 => fun _ _ => False
 | k + 1 => fun a w => c.wpIn F n P (fun e a' w' => match e with | .normal => LoopN F n P c Q k a' w' | e => Q e a' w') a w
theorem loopN_wp {F : Fence} {n : Nat} {P : Program} {c : Code} {Q : Exit → Act → World → Prop} {k : Nat} {a : Act} {w : World} (h : LoopN F n P c Q k a w) : (Code.loop c).wpIn F n P Q a w := by
 refine wpIn_loop (fun a w => ∃ m, LoopN F n P c Q m a w) (fun a w => leastOf (fun m => LoopN F n P c Q m a w)) ⟨k, h⟩ fun a w hI => ?_
 have h1 := (leastOf_spec hI).1
 cases hk : leastOf (fun m => LoopN F n P c Q m a w) with
 | zero => rw [hk] at h1; exact h1.elim
 | succ k' =>
  rw [hk] at h1
  refine wpIn_mono h1 fun e a' w' hq => ?_
  cases e with
  | normal => exact ⟨⟨k', hq⟩, Nat.lt_of_le_of_lt ((leastOf_spec (p := fun m => LoopN F n P c Q m a' w') ⟨k', hq⟩).2 _ hq) (by omega)⟩
  | _ => exact hq
def forceT {β : Type} (t : Tr EV) (k : Tr EV → Option β) : Option β :=
 Tr.rec (motive := fun _ => (Tr EV → Option β) → Option β) (fun k => k .e) (fun x _ _ fl fr k => fl fun l => fr fun r => k (.n x l r)) t k
theorem forceT_eq {β : Type} : ∀ (t : Tr EV) (k : Tr EV → Option β), forceT t k = k t
 | .e, _ => rfl
 | .n x l r, k => by
  show forceT l (fun l => forceT r fun r => k (.n x l r)) = _
  rw [forceT_eq l, forceT_eq r]
section
variable {P : Program} (T : Env P) (ty : Ty P) (fnT : Nat → Option FnI) (orc : Nat → List EV → Option Value) (ceF : (Code → Es → Option (Exit × Es)) → Nat → List EV → Es → Option EE)
def exLoop (ih : Code → Es → Option (Exit × Es)) (c : Code) : Nat → Es → Option (Exit × Es)
 | 0, _ => none
 | k + 1, s => match ih c s with
  | some (.normal, ⟨nt, t, m, nb, q, nl, base⟩) => forceT t fun t => exLoop ih c k ⟨nt, t, m, nb, q, nl, base⟩
  | r => r
def exStep (ih : Code → Es → Option (Exit × Es)) (c : Code) (s : Es) : Option (Exit × Es) :=
 match c with
 | .skip => some (.normal, s)
 | .region _ ops draw => (match eRegion ty fnT orc (ceF ih) ih ops draw s with
  | some s' => some (.normal, s')
  | none => none)
 | .seq a b => (match ih a s with
  | some (.normal, s1) => ih b s1
  | r => r)
 | .cond x a b => (match egv s x with
  | some (.v (.bool true)) => ih a s
  | some (.v (.bool false)) => ih b s
  | _ => none)
 | .block id c => (match ih c s with
  | some (.exit j, s') => bif Nat.beq j id then some (.normal, s') else some (.exit j, s')
  | r => r)
 | .loop c => exLoop ih c 1000000 s
 | .scope c => (match ih c s with
  | some (.goto _, _) => none
  | r => r)
 | .exit id => some (.exit id, s)
 | .ret => some (.ret, s)
 | .label _ => some (.normal, s)
 | .goto l => some (.goto l, s)
 | .rangeFunc g ps x y => exRange ty fnT ih g ps x y s
 | .refuse _ => none
def ex : Nat → Code → Es → Option (Exit × Es)
 | 0 => fun _ _ => none
 | f + 1 => exStep ty fnT orc ceF (ex f)
variable {ty fnT orc ceF}
variable (hty : ∀ k ti, ty.f k = some ti → T.ty k = some ti) (hfn : FnOK P T fnT) (horc : OrcOK P T orc) (hce : ∀ ih, Sound P ih → CeOK T (ceF ih)) (hm : P.follows .mixedOrders = true)
def Ends (L : Nat → Nat) (s : Es) (σ : Sg) (e : Exit) (s' : Es) : Exit → Sg → Prop := fun e' σ' => e' = e ∧ ∃ L', Rel L' s' σ' ∧ Fol L L' s s' σ σ'
theorem Sound.ends {ih : Code → Es → Option (Exit × Es)} (hS : Sound P ih) {c : Code} {s s' : Es} {e : Exit} (h : ih c s = some (e, s')) {L : Nat → Nat} {σ : Sg} (hR : Rel L s σ) : VC P c σ (Ends L s σ e s') :=
 hS c s e s' h L σ _ hR fun L' σ' h1 h2 => ⟨rfl, L', h1, h2⟩
include hty hfn horc hce hm in
include hty hfn horc hce hm in
variable (ty fnT orc ceF) in
include hty hfn horc hce hm in
end
end
end Go.Proofs.YtkbfcofifhngfaaGreat.Tx
namespace Go.Proofs.YtkbfcofifhngfaaGreat.Tx
open Go Go.RowKit
noncomputable section
set_option linter.unusedVariables false
set_option linter.unusedSimpArgs false
set_option linter.unusedSectionVars false
mutual
def EV.lt (n : Nat) : EV → Bool
 | .v _ => true
 | .ptr i _ => Nat.blt i n
 | .sl i _ _ _ => Nat.blt i n
 | .os i j _ => Nat.blt i n && Nat.blt j n
 | .agg l => EV.lts n l
 | .fn _ cap => EV.lts n cap
 | .mv _ cap => EV.lts n cap
 | .tup l => EV.lts n l
 | .yl _ => true
def EV.lts (n : Nat) : List EV → Bool
 | [] => true
 | x :: r => EV.lt n x && EV.lts n r
end
mutual
theorem EV.lt_re (L : Nat → Nat) (n : Nat) : ∀ x : EV, (x.re L).lt n = x.lt n
 | .v _ => rfl
 | .ptr _ _ => rfl
 | .sl _ _ _ _ => rfl
 | .os _ _ _ => rfl
 | .agg l => by simp only [EV.re, SV.lt, EV.lt, EV.lts_re L n l]
 | .fn _ l => by simp only [EV.re, SV.lt, EV.lt, EV.lts_re L n l]
 | .mv _ l => by simp only [EV.re, SV.lt, EV.lt, EV.lts_re L n l]
 | .tup l => by simp only [EV.re, SV.lt, EV.lt, EV.lts_re L n l]
 | .yl _ => rfl
theorem EV.lts_re (L : Nat → Nat) (n : Nat) : ∀ l : List EV, SV.lts n (EV.res L l) = EV.lts n l
 | [] => rfl
 | x :: r => by simp only [EV.res, SV.lts, EV.lts, EV.lt_re L n x, EV.lts_re L n r]
end
def EB.lt (n : Nat) : EB → Bool
 | .gone => true
 | .cells l _ _ => EV.lts n l
 | .big t k _ _ => EV.lts n (t.toL k 0)
 | .grow j _ _ xs _ => Nat.blt j n && EV.lts n xs
theorem EB.lt_re (L : Nat → Nat) (n : Nat) (b : EB) : (b.re L).lt n = b.lt n := by
 cases b <;> simp only [EB.re, Blk.lt, EB.lt, EV.lts_re]
mutual
theorem SV.c_ltc {β β' : Nat → Nat} {n : Nat} (h : ∀ i, i < n → β' i = β i) : ∀ s : SV, s.lt n = true → s.c β' = s.c β
 | .v _, _ => rfl
 | .ptr i o, hs => by simp only [SV.lt, Nat.blt_eq] at hs; simp only [SV.c, h i hs]
 | .sl i _ _ _, hs => by simp only [SV.lt, Nat.blt_eq] at hs; simp only [SV.c, h i hs]
 | .os i j _, hs => by simp only [SV.lt, Bool.and_eq_true, Nat.blt_eq] at hs; simp only [SV.c, h i hs.1, h j hs.2]
 | .agg l, hs => by simp only [SV.lt] at hs; simp only [SV.c, SV.cs_ltc h l hs]
 | .fn _ l, hs => by simp only [SV.lt] at hs; simp only [SV.c, SV.cs_ltc h l hs]
 | .mv _ l, hs => by simp only [SV.lt] at hs; simp only [SV.c, SV.cs_ltc h l hs]
 | .tup l, hs => by simp only [SV.lt] at hs; simp only [SV.c, SV.cs_ltc h l hs]
theorem SV.cs_ltc {β β' : Nat → Nat} {n : Nat} (h : ∀ i, i < n → β' i = β i) : ∀ l : List SV, SV.lts n l = true → SV.cs β' l = SV.cs β l
 | [], _ => rfl
 | x :: r, hs => by
  simp only [SV.lts, Bool.and_eq_true] at hs
  simp only [SV.cs, SV.c_ltc h x hs.1, SV.cs_ltc h r hs.2]
end
theorem Blk.ok_ltc {β β' : Nat → Nat} {n : Nat} {w : World} {i : Nat} (h : ∀ i, i < n → β' i = β i) (b : Blk) (hb : b.lt n = true) (ho : b.ok β w i) : b.ok β' w i := by
 cases b with
 | gone => trivial
 | cells l ty => simp only [Blk.ok, SV.cs_ltc h l hb] at *; exact ho
 | row xs ty => exact ho
 | own j k sz xs ty => simp only [Blk.lt, Nat.blt_eq] at hb; simp only [Blk.ok, h j hb] at *; exact ho
 | grow j k sz xs ty => simp only [Blk.lt, Bool.and_eq_true, Nat.blt_eq] at hb; simp only [Blk.ok, h j hb.1, SV.cs_ltc h xs hb.2] at *; exact ho
 | mix j k sz vs xs ty => simp only [Blk.lt, Bool.and_eq_true, Nat.blt_eq] at hb; simp only [Blk.ok, h j hb.1, SV.cs_ltc h xs hb.2] at *; exact ho
 | obj n p => exact ho
mutual
def EV.bl : EV → List Nat → List Nat
 | .ptr i _, r => i :: r
 | .sl i _ _ _, r => i :: r
 | .os i _ _, r => i :: r
 | .agg l, r => EV.bls l r
 | .fn _ l, r => EV.bls l r
 | .mv _ l, r => EV.bls l r
 | .tup l, r => EV.bls l r
 | _, r => r
def EV.bls : List EV → List Nat → List Nat
 | [], r => r
 | x :: l, r => EV.bl x (EV.bls l r)
end
def reach (m : Tr EB) : Nat → List Nat → List Nat → List Nat
 | 0, _, seen => seen
 | _ + 1, [], seen => seen
 | f + 1, i :: r, seen => bif nin i seen then (match m.get i with
  | some (.cells l _ _) => reach m f (EV.bls l r) (i :: seen)
  | some (.big t n _ _) => reach m f (EV.bls (t.toL n 0) r) (i :: seen)
  | some (.grow _ _ _ l _) => reach m f (EV.bls l r) (i :: seen)
  | _ => reach m f r seen) else reach m f r seen
def roB : EB → EB
 | .cells l ty _ => .cells l ty true
 | .big t n ty _ => .big t n ty true
 | b => b
theorem roB_re (L : Nat → Nat) (b : EB) : (roB b).re L = b.re L := by cases b <;> rfl
def restrict (m : Tr EB) : List Nat → Tr EB
 | [] => .e
 | i :: r => match m.get i with
  | some b => Tr.set 24 (restrict m r) i (roB b)
  | none => restrict m r
theorem restrict_get {m : Tr EB} : ∀ {rb : List Nat} {i : Nat} {b : EB}, (restrict m rb).get i = some b → i ∈ rb ∧ ∃ b0, m.get i = some b0 ∧ b = roB b0
 | [], _, _, h => by cases h
 | k :: r, i, b, h => by
  simp only [restrict] at h
  split at h
  · rename_i b0 hb0
    rcases Tr.set_get _ _ _ _ _ _ h with ⟨rfl, rfl⟩ | ⟨h1, h2⟩
    · exact ⟨List.mem_cons_self, b0, hb0, rfl⟩
    · obtain ⟨g1, g2⟩ := restrict_get h2
      exact ⟨List.mem_cons_of_mem _ g1, g2⟩
  · obtain ⟨g1, g2⟩ := restrict_get h
    exact ⟨List.mem_cons_of_mem _ g1, g2⟩
def endB (nl : Nat) (m m2 : Tr EB) : List Nat → Option (List (Nat × EB))
 | [] => some []
 | i :: r => match m.get i, m2.get i with
  | some (.cells l _ _), some (.cells _ _ true) => bif EV.yoks nl l then endB nl m m2 r else none
  | some (.big t n _ _), some (.big _ _ _ true) => bif EV.yoks nl (t.toL n 0) then endB nl m m2 r else none
  | some (.grow _ _ _ _ _), some b => (match endB nl m m2 r with
   | some l => some ((i, b) :: l)
   | none => none)
  | _, _ => none
theorem endB_spec {nl : Nat} {m m2 : Tr EB} : ∀ {rb : List Nat} {l : List (Nat × EB)}, endB nl m m2 rb = some l → (∀ p ∈ l, p.1 ∈ rb ∧ m2.get p.1 = some p.2 ∧ ∃ j n sz xs ty, m.get p.1 = some (.grow j n sz xs ty)) ∧
 ∀ i ∈ rb, ((∃ l0 ty ro l1 ty1, m.get i = some (.cells l0 ty ro) ∧ m2.get i = some (.cells l1 ty1 true) ∧ EV.yoks nl l0 = true) ∨ ∃ t0 n0 ty ro t1 n1 ty1, m.get i = some (.big t0 n0 ty ro) ∧ m2.get i = some (.big t1 n1 ty1 true) ∧ EV.yoks nl (t0.toL n0 0) = true) ∨ ∃ b, (i, b) ∈ l
 | [], l, h => by simp only [endB, Option.some.injEq] at h; subst h; exact ⟨fun p hp => (by cases hp), fun i hi => (by cases hi)⟩
 | k :: r, l, h => by
  simp only [endB] at h
  split at h
  · rename_i l0 ty ro l1 ty1 h1 h2
    cases hy : EV.yoks nl l0 with
    | false => rw [hy] at h; cases h
    | true =>
    rw [hy, cond_true] at h
    obtain ⟨g1, g2⟩ := endB_spec h
    refine ⟨fun p hp => ⟨List.mem_cons_of_mem _ (g1 p hp).1, (g1 p hp).2⟩, fun i hi => ?_⟩
    rcases List.mem_cons.1 hi with rfl | hi
    · exact .inl (.inl ⟨l0, ty, ro, l1, ty1, h1, h2, hy⟩)
    · exact g2 i hi
  · rename_i t0 n0 ty ro t1 n1 ty1 h1 h2
    cases hy : EV.yoks nl (t0.toL n0 0) with
    | false => rw [hy] at h; cases h
    | true =>
    rw [hy, cond_true] at h
    obtain ⟨g1, g2⟩ := endB_spec h
    refine ⟨fun p hp => ⟨List.mem_cons_of_mem _ (g1 p hp).1, (g1 p hp).2⟩, fun i hi => ?_⟩
    rcases List.mem_cons.1 hi with rfl | hi
    · exact .inl (.inr ⟨t0, n0, ty, ro, t1, n1, ty1, h1, h2, hy⟩)
    · exact g2 i hi
  · rename_i j n sz xs ty b h1 h2
    split at h
    · rename_i l' hl'
      simp only [Option.some.injEq] at h
      subst h
      obtain ⟨g1, g2⟩ := endB_spec hl'
      refine ⟨fun p hp => ?_, fun i hi => ?_⟩
      · rcases List.mem_cons.1 hp with rfl | hp
        · exact ⟨List.mem_cons_self, h2, j, n, sz, xs, ty, h1⟩
        · exact ⟨List.mem_cons_of_mem _ (g1 p hp).1, (g1 p hp).2⟩
      · rcases List.mem_cons.1 hi with rfl | hi
        · exact .inr ⟨b, List.mem_cons_self⟩
        · rcases g2 i hi with g | ⟨b', hb'⟩
          · exact .inl g
          · exact .inr ⟨b', List.mem_cons_of_mem _ hb'⟩
    · cases h
  · cases h
def newB (m2 : Tr EB) (nb : Nat) : List Nat → List (Nat × EB)
 | [] => []
 | i :: r => bif Nat.ble nb i then (match m2.get i with
  | some b => (i, b) :: newB m2 nb r
  | none => newB m2 nb r) else newB m2 nb r
theorem newB_mem {m2 : Tr EB} {nb : Nat} : ∀ {l : List Nat} {p : Nat × EB}, p ∈ newB m2 nb l → nb ≤ p.1 ∧ m2.get p.1 = some p.2
 | [], _, h => by cases h
 | i :: r, p, h => by
  simp only [newB] at h
  cases hb : Nat.ble nb i with
  | false => rw [hb, cond_false] at h; exact newB_mem h
  | true =>
   rw [hb, cond_true] at h
   split at h
   · rename_i b hg
     rcases List.mem_cons.1 h with rfl | h
     · exact ⟨by rwa [Nat.ble_eq] at hb, hg⟩
     · exact newB_mem h
   · exact newB_mem h
def modsOK (nl nb2 : Nat) : List (Nat × EB) → Bool
 | [] => true
 | (i, b) :: r => Nat.blt i nb2 && b.lt nb2 && b.yok nl && modsOK nl nb2 r
theorem modsOK_mem {nl nb2 : Nat} : ∀ {l : List (Nat × EB)}, modsOK nl nb2 l = true → ∀ p ∈ l, p.1 < nb2 ∧ p.2.lt nb2 = true ∧ p.2.yok nl = true
 | [], _, p, h => by cases h
 | (i, b) :: r, h, p, hp => by
  simp only [modsOK, Bool.and_eq_true, Nat.blt_eq] at h
  rcases List.mem_cons.1 hp with rfl | hp
  · exact ⟨h.1.1.1, h.1.1.2, h.1.2⟩
  · exact modsOK_mem h.2 p hp
def freshL : Nat → Nat → List Nat
 | 0, _ => []
 | n + 1, k => k :: freshL n (Nat.succ k)
theorem freshL_eq : ∀ (n k : Nat), freshL n k = List.range' k n
 | 0, _ => rfl
 | n + 1, k => by rw [freshL, freshL_eq n, List.range'_succ]
theorem remods_mem {L : Nat → Nat} : ∀ {l : List (Nat × EB)} {i : Nat} {b : Blk}, (i, b) ∈ remods L l → ∃ b0, (i, b0) ∈ l ∧ b = b0.re L
 | [], _, _, h => by cases h
 | (k, c) :: r, i, b, h => by
  simp only [remods] at h
  rcases List.mem_cons.1 h with h | h
  · simp only [Prod.mk.injEq] at h
    obtain ⟨rfl, rfl⟩ := h
    exact ⟨c, List.mem_cons_self, rfl⟩
  · obtain ⟨b0, h1, h2⟩ := remods_mem h
    exact ⟨b0, List.mem_cons_of_mem _ h1, h2⟩
theorem mem_remods {L : Nat → Nat} : ∀ {l : List (Nat × EB)} {i : Nat} {b : EB}, (i, b) ∈ l → (i, b.re L) ∈ remods L l
 | (k, c) :: r, i, b, h => by
  simp only [remods]
  rcases List.mem_cons.1 h with h | h
  · simp only [Prod.mk.injEq] at h
    obtain ⟨rfl, rfl⟩ := h
    exact List.mem_cons_self
  · exact List.mem_cons_of_mem _ (mem_remods h)
 | [], _, _, h => by cases h
section
variable {P : Program} (T : Env P) (ty : Ty P) (fnT : Nat → Option FnI)
def exCe (ih : Code → Es → Option (Exit × Es)) (k : Nat) (args : List EV) (s : Es) : Option EE :=
 match s, fnT k with
 | ⟨_, _, m, nb, _, nl, _⟩, some ⟨fnt, c, rs⟩ => bif Nat.ble args.length fnt then
  (match reach m 200 (EV.bls args []) [] with
  | rb => (match ih c ⟨fnt, slotsT 0 args, restrict m rb, nb, [], nl, nb⟩ with
   | some (e, ⟨_, t2, m2, nb2, _, _, _⟩) => (match isEnd e, resE ty.f t2 m2 rs, endB nl m m2 rb with
    | true, some l, some ms => (match oneE l with
     | v => (match ms ++ newB m2 nb (reach m2 200 (EV.bl v []) []) with
      | mods => bif v.yok nl && v.lt nb2 && Nat.ble nb nb2 && modsOK nl nb2 mods && nodupB (keysM mods) then
       forceN (Nat.sub nb2 nb) fun d => some ⟨v, freshL d nb, mods, [], rb⟩ else none))
    | _, _, _ => none)
   | none => none)) else none
 | _, none => none
variable {ty fnT}
variable (hty : ∀ k ti, ty.f k = some ti → T.ty k = some ti) (hfn : FnOK P T fnT) (hm : P.follows .mixedOrders = true)
include hty hfn hm in
theorem exCe_ok {ih : Code → Es → Option (Exit × Es)} (hS : Sound P ih) : CeOK T (exCe ty fnT ih) := by
 intro k args s E h L σ hR hok hargs
 obtain ⟨nt, t, m, nb, q, nl, base⟩ := s
 unfold exCe at h
 split at h
 · rename_i nt t m nb q nl base fnt c rs heq hf
   cases heq
   obtain ⟨fn, f1, f2, f3, f4, f5⟩ := hfn _ _ hf
   simp only at f2 f3 f4
   refine ⟨f5, ?_⟩
   cases hc : Nat.ble args.length fnt with
   | false => rw [hc] at h; cases h
   | true =>
    rw [hc, cond_true] at h
    rw [Nat.ble_eq] at hc
    simp only at h
    generalize hrb : reach m 200 (EV.bls args []) [] = rb at h
    split at h
    · rename_i e nt2 t2 m2 nb2 q2 nl2 b2 hev
      split at h
      · rename_i l ms he hl hms
        generalize hv : oneE l = v at h
        generalize hmods : ms ++ newB m2 nb (reach m2 200 (EV.bl v []) []) = mods at h
        cases hck : v.yok nl && v.lt nb2 && Nat.ble nb nb2 && modsOK nl nb2 mods && nodupB (keysM mods) with
        | false => rw [hck] at h; cases h
        | true =>
         rw [hck, cond_true, forceN_eq, Option.some.injEq] at h
         subst h
         simp only [Bool.and_eq_true, Nat.ble_eq] at hck
         obtain ⟨⟨⟨⟨hvy, hvl⟩, hnb⟩, hmo⟩, hnd⟩ := hck
         have hsnb : σ.nb = nb := hR.nb
         obtain ⟨hb1, hb2⟩ := endB_spec hms
         have hmm := modsOK_mem hmo
         have hmsrc : ∀ p ∈ mods, m2.get p.1 = some p.2 ∧ ((p.1 ∈ rb ∧ ∃ j n sz xs ty, m.get p.1 = some (.grow j n sz xs ty)) ∨ nb ≤ p.1) := fun p hp => by
          rw [← hmods] at hp
          rcases List.mem_append.1 hp with hp | hp
          · exact ⟨(hb1 p hp).2.1, .inl ⟨(hb1 p hp).1, (hb1 p hp).2.2⟩⟩
          · exact ⟨(newB_mem hp).2, .inr (newB_mem hp).1⟩
         have hlive : ∀ i ∈ rb, ∃ b0, m.get i = some b0 ∧ (b0.re L).live = true := fun i hi => by
          rcases hb2 i hi with (⟨l0, ty0, ro, l1, ty1, g1, _, _⟩ | ⟨l0, n0, ty0, ro, l1, n1, ty1, g1, _, _⟩) | ⟨b, hb⟩
          · exact ⟨_, g1, rfl⟩
          · exact ⟨_, g1, rfl⟩
          · obtain ⟨j, n, sz, xs, ty0, g1⟩ := (hb1 _ hb).2.2
            exact ⟨_, g1, rfl⟩
         have hfr : freshL (Nat.sub nb2 nb) nb = List.range' nb (nb2 - nb) := freshL_eq _ _
         have hfrm : ∀ i, i ∈ freshL (Nat.sub nb2 nb) nb ↔ nb ≤ i ∧ i < nb2 := fun i => by
          rw [hfr, List.mem_range'_1]
          constructor
          · intro h; omega
          · intro h; omega
         have hfl : (freshL (Nat.sub nb2 nb) nb).length = nb2 - nb := by rw [hfr]; simp
         have honce : ∀ i b b', (i, b) ∈ mods → (i, b') ∈ mods → b = b' := fun i b b' h1 h2 => by
          have g1 := (hmsrc _ h1).1
          have g2 := (hmsrc _ h2).1
          simp only at g1 g2
          rw [g1] at g2
          exact Option.some.inj g2
         refine ⟨⟨?_, ?_, fun i b hi => ?_, fun i b hi hlt => ?_, fun i b b' h1 h2 => ?_⟩, ?_⟩
         · show freshL (Nat.sub nb2 nb) nb = List.range' σ.nb (freshL (Nat.sub nb2 nb) nb).length
           rw [hfl, hfr, hsnb]
         · show (v.re L).lt (σ.nb + (freshL (Nat.sub nb2 nb) nb).length) = true
           rw [hfl, hsnb, show nb + (nb2 - nb) = nb2 from by omega, EV.lt_re]; exact hvl
         · obtain ⟨b0, h1, rfl⟩ := remods_mem hi
           show i < σ.nb + (freshL (Nat.sub nb2 nb) nb).length ∧ (b0.re L).lt (σ.nb + (freshL (Nat.sub nb2 nb) nb).length) = true
           rw [hfl, hsnb, show nb + (nb2 - nb) = nb2 from by omega, EB.lt_re]
           exact ⟨(hmm _ h1).1, (hmm _ h1).2.1⟩
         · obtain ⟨b0, h1, rfl⟩ := remods_mem hi
           rcases (hmsrc _ h1).2 with ⟨g1, j, n, sz, xs, ty0, g2⟩ | g
           · exact ⟨g1, _, hR.m i _ g2, rfl⟩
           · simp only at g; omega
         · obtain ⟨b0, g1, rfl⟩ := remods_mem h1
           obtain ⟨b1, g2, rfl⟩ := remods_mem h2
           rw [honce _ _ _ g1 g2]
         · intro β w hrbok hinj hh
           have hrbok : ∀ i ∈ rb, ∀ b, lk σ.m i = some b → b.ok β w (β i) := hrbok
           have hinj : ∀ i ∈ rb, ∀ j ∈ rb, ∀ bi bj, lk σ.m i = some bi → lk σ.m j = some bj → bi.live = true → bj.live = true → i ≠ j → β i ≠ β j := hinj
           let m0L : List (Nat × Blk) := rb.filterMap fun i => (lk σ.m i).map fun b => (i, b)
           have hm0a : ∀ (r : List Nat) i b, lk (r.filterMap fun i => (lk σ.m i).map fun b => (i, b)) i = some b → i ∈ r ∧ lk σ.m i = some b := fun r i b hi => by
            have h1 := lk_mem hi
            obtain ⟨i', hi', h2⟩ := List.mem_filterMap.1 h1
            cases hx : lk σ.m i' with
            | none => rw [hx] at h2; cases h2
            | some y =>
             rw [hx, Option.map_some, Option.some.injEq, Prod.mk.injEq] at h2
             obtain ⟨rfl, rfl⟩ := h2
             exact ⟨hi', hx⟩
           have hm0b : ∀ (r : List Nat) i b, i ∈ r → lk σ.m i = some b → lk (r.filterMap fun i => (lk σ.m i).map fun b => (i, b)) i = some b := fun r i b hi hb => by
            obtain ⟨y, hy⟩ := lk_isSome (l := r.filterMap fun i => (lk σ.m i).map fun b => (i, b)) (i := i) (x := b) (List.mem_filterMap.2 ⟨i, hi, by rw [hb]; rfl⟩)
            have := (hm0a r i y hy).2
            rw [hb] at this
            rw [hy, this]
           let g0 : List (Nat × SV) := (List.range nb).map fun i => (i, SV.ptr i 0)
           have hg0a : ∀ i x, lk g0 i = some x → x = .ptr i 0 ∧ i < nb := fun i x hx => by
            obtain ⟨j, hj, h2⟩ := List.mem_map.1 (lk_mem hx)
            simp only [Prod.mk.injEq] at h2
            obtain ⟨rfl, rfl⟩ := h2
            exact ⟨rfl, List.mem_range.1 hj⟩
           have hg0b : ∀ i, i < nb → lk g0 i = some (.ptr i 0) := fun i hi => by
            obtain ⟨y, hy⟩ := lk_isSome (l := g0) (i := i) (x := SV.ptr i 0) (List.mem_map.2 ⟨i, List.mem_range.2 hi, rfl⟩)
            rw [hy, (hg0a i y hy).1]
           have hg0low : gLow nb g0 = true := by
            have key : ∀ l : List Nat, (∀ i ∈ l, i < nb) → gLow nb (l.map fun i => (i, SV.ptr i 0)) = true := by
             intro l
             induction l with
             | nil => intro _; rfl
             | cons i r ih =>
              intro h
              simp only [List.map_cons, gLow, Bool.and_eq_true, Nat.blt_eq]
              exact ⟨h i List.mem_cons_self, ih fun j hj => h j (List.mem_cons_of_mem _ hj)⟩
            exact key _ fun i hi => List.mem_range.1 hi
           let D : Nat → Prop := fun b => b < w.heap.size ∧ ∀ i ∈ rb, β i ≠ b
           let hw : World → Prop := fun w' => Chg (fun b => ¬ D b) w w'
           let X : Cx := ⟨fun k => .pointer (some ⟨β k, 0, none⟩), [], []⟩
           have hamb : Amb X ⟨g0, [], 0⟩ β D w := ⟨fun k x hk => (by rw [(hg0a k x hk).1]; rfl), fun p hp => (by cases hp), fun i e hi => (by cases hi), rfl, List.nodup_nil, fun d hd => (by cases hd)⟩
           have hmem : Mem ⟨fnt, slotsOf 0 (EV.res L args), m0L, nb, hw, ⟨g0, [], 0⟩⟩ β D w := by
            refine ⟨fun i b hi => ?_, fun i j bi bj h1 h2 h3 h4 h5 => ?_, fun i b hi hl hD => ?_, fun b hb => hb.1, fun w' hc => hc⟩
            · obtain ⟨g1, g2⟩ := hm0a rb i b hi
              exact hrbok i g1 b g2
            · obtain ⟨g1, g2⟩ := hm0a rb i bi h1
              obtain ⟨g3, g4⟩ := hm0a rb j bj h2
              exact hinj i g1 j g3 bi bj g2 g4 h3 h4 h5
            · exact hD.2 i (hm0a rb i b hi).1 rfl
           have hcall := calls_VC T hm f1 f2 f3 (args := EV.res L args) (m0 := m0L) (nb0 := nb) (h := hw) (z0 := ⟨g0, [], 0⟩)
            (K := fun sv σ' => ∃ L', Rel L' ⟨nt2, t2, m2, nb2, q2, nl2, b2⟩ σ' ∧ Fol L L' ⟨fnt, slotsT 0 args, restrict m rb, nb, [], nl, nb⟩ ⟨nt2, t2, m2, nb2, q2, nl2, b2⟩ ⟨fnt, slotsOf 0 (EV.res L args), m0L, nb, hw, ⟨g0, [], 0⟩⟩ σ' ∧ sv = v.re L')
            (by rw [EV.res_len]; exact hc) (by rw [← hsnb]; exact hargs) (fun i b hi => by rw [← hsnb]; exact hok.wf.m i b (hm0a rb i b hi).2) (fun k x hk => by
             obtain ⟨rfl, h2⟩ := hg0a k x hk
             simp only [SV.lt, Nat.blt_eq]; exact h2) (by
            refine hS _ _ _ _ hev L _ _ ⟨rfl, fun k x hk => slotsT_get L hk, fun i b hi => ?_, rfl, rfl, fun i lp hi => (by simp at hi), fun p hp => (by cases hp), fun lp hlp => (by cases hlp), hg0low⟩ fun L' σ' hR' hF' => ?_
            · obtain ⟨g1, b0, g2, rfl⟩ := restrict_get hi
              rw [roB_re]
              exact hm0b rb i _ g1 (hR.m i b0 g2)
            · have key : resK T σ' fn.results.toList fun l' => oneK l' fun sv => ∃ L', Rel L' ⟨nt2, t2, m2, nb2, q2, nl2, b2⟩ σ' ∧ Fol L L' ⟨fnt, slotsT 0 args, restrict m rb, nb, [], nl, nb⟩ ⟨nt2, t2, m2, nb2, q2, nl2, b2⟩ ⟨fnt, slotsOf 0 (EV.res L args), m0L, nb, hw, ⟨g0, [], 0⟩⟩ σ' ∧ sv = v.re L' := by
               rw [f4]
               refine resE_K T hty hR' hl (oneE_K L' ?_)
               rw [hv]
               exact ⟨L', hR', hF', rfl⟩
              cases e <;> first | exact key | cases he) X hamb hmem
           refine hcall.mono fun e' w' ⟨sv, σ', β', D', hret, ⟨L', hR', hF', hsv⟩, hok', hlt', hmem', hamb'⟩ => ?_
           subst hsv
           have hLs : ∀ i, i < nl → L' i = L i := hF'.L
           have hvre : v.re L' = v.re L := EV.re_congr hLs v hvy
           have hβ : ∀ i, i < nb → β' i = β i := fun i hi => by
            have h1 := hF'.g i _ (by simp only; exact hi) (hg0b i hi)
            have h2 := hamb'.g i _ h1
            simp only [X, SV.c, Value.pointer.injEq, Option.some.injEq, Addr.mk.injEq] at h2
            exact h2.1.symm
           have hhw : hw w' := by
            have := hmem'.h w' (Chg.refl _ _)
            rw [hF'.h] at this
            exact this
           have hDD : ∀ b, D b → D' b := fun b hDb => Classical.byContradiction fun hnD => by
            have hlt1 : b < w'.heap.size := Nat.lt_of_lt_of_le hDb.1 hhw.size
            have key : ∀ o : Obj, w.heap[b]? = some o := fun o => by
             have h1 := hmem'.h (w'.putObj b o) (putObj_chg hnD)
             rw [hF'.h] at h1
             have h2 : (w'.putObj b o).heap[b]? = w.heap[b]? := h1.same b hDb.1 (fun h => h hDb)
             rw [← h2]
             exact World.putObj_heap_same hlt1
            have h1 := key (.deferred none)
            have h2 := key (.deferred (some []))
            rw [h1] at h2
            cases h2
           have hblt : ∀ i b, (i, b) ∈ mods → lk σ'.m i = some (b.re L) ∧ i < nb2 ∧ (b.re L).lt nb2 = true := fun i b hi => by
            have h1 := hR'.m i b (hmsrc _ hi).1
            rw [EB.re_congr hLs b (hmm _ hi).2.2] at h1
            exact ⟨h1, (hmm _ hi).1, by rw [EB.lt_re]; exact (hmm _ hi).2.1⟩
           have hbb : ∀ i, i < nb2 → (fun i => if i < nb2 then β' i else β i) i = β' i := fun i hi => by simp [hi]
           refine ⟨fun i => if i < nb2 then β' i else β i, ?_, ⟨fun i hi => ?_, ⟨hhw.os, hhw.tape, hhw.output, hhw.size, fun b hb hX => ?_⟩, fun i b hi => ?_, fun i hi hL => ?_, fun i hi j hj hLi hLj hne => ?_⟩⟩
           · rw [hret, hvre]
             congr 1
             exact (SV.c_ltc hbb (v.re L) (by rw [EV.lt_re]; exact hvl)).symm
           · have hi' : ¬ (nb ≤ i ∧ i < nb2) := fun h => hi ((hfrm i).2 h)
             show (if i < nb2 then β' i else β i) = β i
             by_cases h2 : i < nb2
             · rw [if_pos h2]; exact hβ i (by omega)
             · rw [if_neg h2]
           · by_cases hDb : D b
             · exact hhw.same b hb (fun h => h hDb)
             · have : ∃ i ∈ rb, β i = b := Classical.byContradiction fun hno => hDb ⟨hb, fun i hi hbi => hno ⟨i, hi, hbi⟩⟩
               obtain ⟨i, hi, rfl⟩ := this
               obtain ⟨b0, hb0, hl0⟩ := hlive i hi
               have hi0 : i < nb := by rw [← hsnb]; exact (hok.wf.m i _ (hR.m i b0 hb0)).1
               have keep : ∀ (l1 : List EV) (ty1 : TypeId) (b1 b0 : EB), m.get i = some b0 → m2.get i = some b1 → (∀ L : Nat → Nat, b0.re L = .cells (EV.res L l1) ty1) → (∀ L : Nat → Nat, b1.re L = .cells (EV.res L l1) ty1) → EV.yoks nl l1 = true → w'.heap[β i]? = w.heap[β i]? := fun l1 ty1 b1 b0 g1 g2 e0 e1 gy => by
                have h6 := hmem'.m i _ (hR'.m i _ g2)
                have h7 := hrbok i hi _ (hR.m i _ g1)
                have hlt7 := (hok.wf.m i _ (hR.m i _ g1)).2
                rw [hsnb] at hlt7
                rw [e1] at h6
                rw [e0] at h7 hlt7
                simp only [Blk.ok, Blk.lt] at h6 h7 hlt7
                rw [hβ i hi0] at h6
                rw [EV.res_congr hLs l1 gy, SV.cs_ltc hβ _ hlt7] at h6
                rw [h6, h7]
               rcases hb2 i hi with (⟨l0, ty0, ro, l1, ty1, g1, g2, gy⟩ | ⟨l0, n0, ty0, ro, l1, n1, ty1, g1, g2, gy⟩) | ⟨b1, hb1'⟩
               · have h3 := hF'.ro i l1 ty1 g2
                 obtain ⟨_, b3, h4, h5⟩ := restrict_get h3
                 rw [g1, Option.some.injEq] at h4
                 subst h4
                 simp only [roB, EB.cells.injEq, and_true] at h5
                 obtain ⟨rfl, rfl⟩ := h5
                 exact keep _ _ _ _ g1 g2 (fun _ => rfl) (fun _ => rfl) gy
               · have h3 := hF'.rob i l1 n1 ty1 g2
                 obtain ⟨_, b3, h4, h5⟩ := restrict_get h3
                 rw [g1, Option.some.injEq] at h4
                 subst h4
                 simp only [roB, EB.big.injEq, and_true] at h5
                 obtain ⟨rfl, rfl, rfl⟩ := h5
                 exact keep _ _ _ _ g1 g2 (fun _ => rfl) (fun _ => rfl) gy
               · exact absurd ⟨i, _, mem_remods (L := L) (l := mods) (by rw [← hmods]; exact List.mem_append_left _ hb1'), fun h => by have := (hfrm i).1 h; omega, rfl⟩ hX
           · obtain ⟨b0, h1, rfl⟩ := remods_mem hi
             obtain ⟨h2, h3, h4⟩ := hblt i b0 h1
             have h5 := hmem'.m i _ h2
             show (b0.re L).ok _ w' (if i < nb2 then β' i else β i)
             rw [if_pos h3]
             exact Blk.ok_ltc hbb _ h4 h5
           · obtain ⟨b, hb, hbl⟩ := hL
             obtain ⟨b0, h1, rfl⟩ := remods_mem hb
             obtain ⟨h2, h3, h4⟩ := hblt i b0 h1
             have hfi := (hfrm i).1 hi
             show w.heap.size ≤ (if i < nb2 then β' i else β i) ∨ ∃ j, (j, Blk.gone) ∈ remods L mods ∧ j ∉ freshL (Nat.sub nb2 nb) nb ∧ (if i < nb2 then β' i else β i) = β j
             rw [if_pos h3]
             rcases Nat.lt_or_ge (β' i) w.heap.size with hlt | hge
             · refine .inr ?_
               have hnD : ¬ D (β' i) := fun hD => hmem'.out i _ h2 hbl (hDD _ hD)
               have : ∃ j ∈ rb, β j = β' i := Classical.byContradiction fun hno => hnD ⟨hlt, fun j hj hbj => hno ⟨j, hj, hbj⟩⟩
               obtain ⟨j, hj, hbj⟩ := this
               obtain ⟨bj0, hbj0, hlj0⟩ := hlive j hj
               have hj0 : j < nb := by rw [← hsnb]; exact (hok.wf.m j _ (hR.m j bj0 hbj0)).1
               have hij : i ≠ j := by omega
               rcases hb2 j hj with (⟨l0, ty0, ro, l1, ty1, g1, g2, _⟩ | ⟨l0, n0, ty0, ro, l1, n1, ty1, g1, g2, _⟩) | ⟨b1, hb1'⟩
               · exact absurd (by rw [hβ j hj0]; exact hbj.symm) (hmem'.inj i j _ _ h2 (hR'.m j _ g2) hbl rfl hij)
               · exact absurd (by rw [hβ j hj0]; exact hbj.symm) (hmem'.inj i j _ _ h2 (hR'.m j _ g2) hbl rfl hij)
               · have hbm : (j, b1) ∈ mods := by rw [← hmods]; exact List.mem_append_left _ hb1'
                 obtain ⟨g2, _, _⟩ := hblt j b1 hbm
                 cases hb1l : (b1.re L).live with
                 | true => exact absurd (by rw [hβ j hj0]; exact hbj.symm) (hmem'.inj i j _ _ h2 g2 hbl hb1l hij)
                 | false =>
                  have hg : b1.re L = .gone := by cases b1 <;> first | rfl | cases hb1l
                  exact ⟨j, by rw [← hg]; exact mem_remods hbm, fun h => by have := (hfrm j).1 h; omega, hbj.symm⟩
             · exact .inl hge
           · obtain ⟨b, hb, hbl⟩ := hLi
             obtain ⟨b0, h1, rfl⟩ := remods_mem hb
             obtain ⟨h2, h3, h4⟩ := hblt i b0 h1
             obtain ⟨b', hb', hbl'⟩ := hLj
             obtain ⟨b0', h1', rfl⟩ := remods_mem hb'
             obtain ⟨h2', h3', h4'⟩ := hblt j b0' h1'
             show (if i < nb2 then β' i else β i) ≠ (if j < nb2 then β' j else β j)
             rw [if_pos h3, if_pos h3']
             exact hmem'.inj i j _ _ h2 h2' hbl hbl' hne
      · cases h
    · cases h
 · cases h
end
end
end Go.Proofs.YtkbfcofifhngfaaGreat.Tx
namespace Go.Proofs.YtkbfcofifhngfaaGreat.Tx
open Go Go.RowKit
noncomputable section
set_option linter.unusedVariables false
set_option linter.unusedSimpArgs false
set_option linter.unusedSectionVars false
def optE {α β : Type} (n : β) (f : α → β) (x : Option α) : β := Option.rec (motive := fun _ => β) n f x
def bolE {β : Type} (f t : β) (b : Bool) : β := Bool.rec (motive := fun _ => β) f t b
def lisE {α β : Type} (n : β) (c : α → List α → β) (l : List α) : β := List.rec (motive := fun _ => β) n (fun a r _ => c a r) l
def strE {β : Type} (f : EE → β) (g : EV → Es → β) (x : StR) : β := StR.rec (motive := fun _ => β) f g x
def esE {β : Type} (k : Nat → Tr EV → Tr EB → Nat → List Lp → Nat → Nat → β) (s : Es) : β := Es.rec (motive := fun _ => β) k s
def eeE {β : Type} (k : EV → List Nat → List (Nat × EB) → List Nat → List Nat → β) (E : EE) : β := EE.rec (motive := fun _ => β) k E
def stepF (d : Option Tmp) (E : EE) (s : Es) : Option Es :=
 eeE (fun x fr mods _ _ => esE (fun nt t m nb q nl base => lisE (lisE (some ⟨nt, optE t (fun d => Tr.set 16 t d x) d, m, nb, q, nl, base⟩) (fun i fr => stepM d x (i :: fr) [] nt t m nb q nl base) fr) (fun p mods => stepM d x fr (p :: mods) nt t m nb q nl base) mods) s) E
theorem stepF_eq (d : Option Tmp) (E : EE) (s : Es) : stepF d E s = stepE d E s := by
 obtain ⟨x, fr, mods, rs, rb⟩ := E
 obtain ⟨nt, t, m, nb, q, nl, base⟩ := s
 cases mods with
 | nil =>
  cases fr with
  | nil => cases d <;> rfl
  | cons i fr => rfl
 | cons p mods => rfl
def dstF (d : Option Tmp) (s : Es) : Bool := optE true (fun d => esE (fun nt _ _ _ _ _ _ => Nat.blt d nt) s) d
abbrev Ih := Code → Es → Option (Exit × Es)
structure BxE where
 f : Es → Option EE
structure OpC where
 f : Ih → Bool → Es → Option StR
structure OpS where
 dst : Option Tmp
 f : Ih → Bool → Es → Option StR
structure RgC where
 f : Ih → Es → Option Es
structure CC where
 f : Ih → Es → Option (Exit × Es)
section
variable {P : Program} (T : Env P) (ty : Ty P) (fnT : Nat → Option FnI) (orc : Nat → List EV → Option Value) (ceF : Ih → Nat → List EV → Es → Option EE)
def cEo (o : Oper) (gs : List Nat) : BxE :=
 match o with
 | ⟨_, op, _, _, _, _⟩ => match op with
  | .move x => ⟨fun s => oMove x gs s⟩
  | .assign x => ⟨fun s => oMove x gs s⟩
  | .pick c a b => ⟨fun s => oPick c a b gs s⟩
  | .alloc t => ⟨fun s => oAlloc ty t gs s⟩
  | .box t x => ⟨fun s => oBox t x gs s⟩
  | .load t x => ⟨fun s => oLoad ty t x gs s⟩
  | .store t x y => ⟨fun s => oStore ty t x y gs s⟩
  | .fieldAddr t x f => ⟨fun s => oFieldAddr ty t x f gs s⟩
  | .field t x f => ⟨fun s => oField ty t x f gs s⟩
  | .indexAddr t x i => ⟨fun s => oIndexAddr ty t x i gs s⟩
  | .index t x i => ⟨fun s => oIndexS ty t x i gs s⟩
  | .build t ps => ⟨fun s => oBuild ty t ps gs s⟩
  | .buildSlice t n ps => ⟨fun s => oBuildSlice ty t n ps gs s⟩
  | .slice t x lo hi mx => ⟨fun s => oSlice ty t x lo hi mx gs s⟩
  | .makeSlice t x y => ⟨fun s => oMakeSlice ty t x y gs s⟩
  | .binOp op t x y _ => ⟨fun s => oBin ty op t x y gs s⟩
  | .unOp op _ x => ⟨fun s => oUnOp op x gs s⟩
  | .convert a b x => ⟨fun s => oConvert ty a b x gs s⟩
  | .extract x i => ⟨fun s => oExtract x i gs s⟩
  | .makeFunc f first cap => ⟨fun s => oMakeFunc f first cap gs s⟩
  | .nilCheck x => ⟨fun s => oNilC x gs s⟩
  | .call ⟨.builtin .len, args, ts⟩ => ⟨fun s => oLen ty args ts gs s⟩
  | .call ⟨.builtin .max, args, _⟩ => ⟨fun s => oFold imax args gs s⟩
  | .call ⟨.builtin .min, args, _⟩ => ⟨fun s => oFold imin args gs s⟩
  | .call ⟨.builtin .append, args, ts⟩ => ⟨fun s => oAppend ty args ts gs s⟩
  | _ => ⟨fun _ => none⟩
def runCall (ce : Nat → List EV → Es → Option EE) (ih : Ih) (pure : Bool) (f : Operand) (args : Array Operand) (gs : List Nat) (s : Es) : Option StR :=
 match calleeE s f, egvs s args.toList with
  | some (.inr n), some l => (match exYield ih n l s with
   | some (v, s') => some (.st v s')
   | none => none)
  | some (.inl (k, first, cap)), some l => (match appE first (appE l cap) with
   | full => match orc k full with
    | some v => some (.ef ⟨.v v, [], [], gs ++ (os f ++ oss args.toList), []⟩)
    | none => match pure with
     | true => (match ce k full s with
      | some ⟨v, fr, mods, _, rb⟩ => some (.ef ⟨v, fr, mods, gs ++ (os f ++ oss args.toList), rb⟩)
      | none => none)
     | false => (match exCall ty fnT ih k full s with
      | some (v, s') => some (.st v s')
      | none => none))
  | _, _ => none
def cRun (o : Oper) (gs : List Nat) : OpC :=
 match o with
 | ⟨_, .call ⟨.value f, args, _⟩, _, _, _, _⟩ => ⟨fun ih pure s => runCall ty fnT orc (ceF ih) ih pure f args gs s⟩
 | o => match cEo ty o gs with
  | ⟨g⟩ => ⟨fun _ _ s => optE none (fun E => some (.ef E)) (g s)⟩
theorem optE_ef (x : Option EE) : optE none (fun E => some (StR.ef E)) x = (match x with
 | some E => some (.ef E)
 | none => none) := by cases x <;> rfl
theorem cRun_eq (o : Oper) (gs : List Nat) (ih : Ih) (pure : Bool) (s : Es) : (cRun ty fnT orc ceF o gs).f ih pure s = runOp ty fnT orc (ceF ih) ih pure o gs s := by
 obtain ⟨dst, op, typ, pos, after, gd⟩ := o
 cases op with
 | call c =>
  obtain ⟨callee, args, ts⟩ := c
  cases callee with
  | value f => rfl
  | builtin b => cases b <;> first | rfl | exact optE_ef _
  | invoke r m => first | rfl | exact optE_ef _
 | _ => first | rfl | exact optE_ef _
def cG (L0 : List Oper) (o : Oper) : OpC :=
 match o.guard with
 | none => cRun ty fnT orc ceF o []
 | some (j, want) => match (L0[j]?).bind (·.dst) with
  | some k => (match cRun ty fnT orc ceF o [k], want with
   | ⟨g⟩, true => ⟨fun ih pure s => match s.tget k with
    | some (.v (.bool true)) => g ih pure s
    | some (.v (.bool false)) => some (.ef ⟨.v undef, [], [], [k], []⟩)
    | some (.v (.tuple _)) => some (.ef ⟨.v undef, [], [], [k], []⟩)
    | _ => none⟩
   | ⟨g⟩, false => ⟨fun ih pure s => match s.tget k with
    | some (.v (.bool false)) => g ih pure s
    | some (.v (.bool true)) => some (.ef ⟨.v undef, [], [], [k], []⟩)
    | some (.v (.tuple _)) => some (.ef ⟨.v undef, [], [], [k], []⟩)
    | _ => none⟩)
  | none => ⟨fun _ _ _ => none⟩
theorem cG_eq (L0 : List Oper) (o : Oper) (ih : Ih) (pure : Bool) (s : Es) : (cG ty fnT orc ceF L0 o).f ih pure s = runG ty fnT orc (ceF ih) ih pure L0 o s := by
 unfold cG runG
 cases hg : o.guard with
 | none => exact cRun_eq ty fnT orc ceF o [] ih pure s
 | some p =>
  obtain ⟨j, want⟩ := p
  cases hk : (L0[j]?).bind (·.dst) with
  | none => simp only [hk]
  | some k =>
   simp only [hk]
   rw [← cRun_eq]
   cases cRun ty fnT orc ceF o [k] with
   | mk g =>
    cases want with
    | true =>
     simp only <;> (cases ht : s.tget k with
     | none => rfl
     | some v =>
      cases v with
      | v x =>
       cases x with
       | bool b => cases b <;> rfl
       | _ => rfl
      | _ => rfl)
    | false =>
     simp only <;> (cases ht : s.tget k with
     | none => rfl
     | some v =>
      cases v with
      | v x =>
       cases x with
       | bool b => cases b <;> rfl
       | _ => rfl
      | _ => rfl)
def cOps (L0 : List Oper) : List Oper → List OpS
 | [] => []
 | o :: r => (match cG ty fnT orc ceF L0 o with | ⟨g⟩ => ⟨o.dst, g⟩) :: cOps L0 r
def dstN (d : Option Tmp) (nt : Nat) : Bool :=
 match d with
 | some d => Nat.blt d nt
 | none => true
def eOpC (ih : Ih) (o : OpS) (k : Es → Option Es) (s : Es) : Option Es :=
 OpS.rec (motive := fun _ => Option Es) (fun d g => bolE none (optE none (strE (fun E => optE none k (stepF d E s)) (fun v s1 => optE none k (putE d v s1))) (g ih false s)) (dstF d s)) o
theorem eOpC_eq (ih : Ih) (d : Option Tmp) (g : Ih → Bool → Es → Option StR) (k : Es → Option Es) (s : Es) : eOpC ih ⟨d, g⟩ k s = (match dstN d s.nt' with
 | true => (match g ih false s with
  | some (.ef E) => (match stepE d E s with
   | some s' => k s'
   | none => none)
  | some (.st v s1) => (match putE d v s1 with
   | some s' => k s'
   | none => none)
  | none => none)
 | false => none) := by
 have h0 : eOpC ih ⟨d, g⟩ k s = bolE none (optE none (strE (fun E => optE none k (stepF d E s)) (fun v s1 => optE none k (putE d v s1))) (g ih false s)) (dstF d s) := rfl
 have h1 : dstF d s = dstN d s.nt' := by cases d <;> cases s <;> rfl
 rw [h0, h1]
 cases dstN d s.nt' with
 | false => rfl
 | true =>
  show optE none (strE (fun E => optE none k (stepF d E s)) (fun v s1 => optE none k (putE d v s1))) (g ih false s) = _
  cases g ih false s with
  | none => rfl
  | some R =>
   cases R with
   | ef E =>
    show optE none k (stepF d E s) = (match stepE d E s with
     | some s' => k s'
     | none => none)
    rw [stepF_eq]
    cases stepE d E s <;> rfl
   | st v s1 =>
    show optE none k (putE d v s1) = (match putE d v s1 with
     | some s' => k s'
     | none => none)
    cases putE d v s1 <;> rfl
def eOpsC (ih : Ih) (l : List OpS) (s : Es) : Option Es :=
 List.rec (motive := fun _ => Es → Option Es) (fun s => some s) (fun o _ k s => eOpC ih o k s) l s
theorem eOpsC_eq (ih : Ih) (L0 : List Oper) : ∀ (l : List Oper) (s : Es), eOpsC ih (cOps ty fnT orc ceF L0 l) s = eOps ty fnT orc (ceF ih) ih L0 l s
 | [], s => rfl
 | o :: r, s => by
  simp only [cOps, eOps]
  rw [← cG_eq]
  cases hc : cG ty fnT orc ceF L0 o with
  | mk g =>
   show eOpC ih ⟨o.dst, g⟩ (eOpsC ih (cOps ty fnT orc ceF L0 r)) s = _
   rw [eOpC_eq]
   show (match dstN o.dst s.nt' with | true => _ | false => _) = (match dstB o s.nt' with | true => _ | false => _)
   have : dstN o.dst s.nt' = dstB o s.nt' := rfl
   rw [this]
   cases dstB o s.nt' with
   | false => rfl
   | true =>
    simp only
    cases g ih false s with
    | none => rfl
    | some x =>
     cases x with
     | ef E =>
      simp only
      cases stepE o.dst E s with
      | none => rfl
      | some s' => exact eOpsC_eq ih L0 r s'
     | st v s1 =>
      simp only
      cases putE o.dst v s1 with
      | none => rfl
      | some s' => exact eOpsC_eq ih L0 r s'
structure OpX where
 o : Oper
 cut : Bool
 mask : List Bool
 f : Ih → Bool → Es → Option StR
def maskL (b : Nat) : Nat → List Bool
 | 0 => []
 | j + 1 => (!(b.testBit j)) :: maskL b j
def cOpsD (L0 : List Oper) (bs : List Nat) : List Oper → Nat → List OpX
 | [], _ => []
 | o :: r, j => (match cG ty fnT orc ceF L0 o, barB j bs 0 && barB (Nat.succ j) bs 0 with
  | ⟨g⟩, true => ⟨o, true, maskL (bs.getD j 0) j, g⟩
  | ⟨g⟩, false => ⟨o, false, maskL (bs.getD j 0) j, g⟩) :: cOpsD L0 bs r (Nat.succ j)
def chkR (pk : Oper × EE) : List Bool → List (Oper × EE) → Bool
 | _, [] => true
 | [], _ :: _ => false
 | true :: m, pj :: r => apartE pj pk && apartE pk pj && avE pj pk && avE pk pj && chkR pk m r
 | false :: m, pj :: r => avE pk pj && chkR pk m r
def eOpsX (ih : Ih) : List OpX → Es → List (Oper × EE) → Option Es
 | [], s, acc => some s
 | ⟨o, cut, mask, g⟩ :: r, s, acc => match dstB o s.nt' with
  | true => (match g ih (!cut) s with
   | some (.ef E) => bif chkR (o, E) mask acc then (match stepE o.dst E s with
    | some s' => eOpsX ih r s' ((o, E) :: acc)
    | none => none) else none
   | some (.st v s1) => bif cut then (match putE o.dst v s1 with
    | some s' => eOpsX ih r s' []
    | none => none) else none
   | none => none)
  | false => none
theorem chkR_get {bs : List Nat} {k : Nat} {pk : Oper × EE} : ∀ {acc : List (Oper × EE)} {j : Nat}, chkR pk (maskL (bs.getD k 0) j) acc = true → ∀ (i : Nat) (pj : Oper × EE), acc[i]? = some pj → i < j ∧
 ((bs.getD k 0).testBit (j - 1 - i) = true ∨ (apartE pj pk = true ∧ apartE pk pj = true ∧ avE pj pk = true)) ∧ avE pk pj = true
 | [], _, _, _, _, hi => by simp at hi
 | q :: r, 0, h, _, _, _ => by simp [maskL, chkR] at h
 | q :: r, j + 1, h, i, pj, hi => by
  simp only [maskL] at h
  cases i with
  | zero =>
   simp only [List.getElem?_cons_zero, Option.some.injEq] at hi
   subst hi
   cases hb : (bs.getD k 0).testBit j with
   | true =>
    rw [hb] at h
    simp only [Bool.not_true, chkR, Bool.and_eq_true] at h
    exact ⟨by omega, .inl (by simpa using hb), h.1⟩
   | false =>
    rw [hb] at h
    simp only [Bool.not_false, chkR, Bool.and_eq_true] at h
    exact ⟨by omega, .inr ⟨h.1.1.1.1, h.1.1.1.2, h.1.1.2⟩, h.1.2⟩
  | succ i =>
   have hr : chkR pk (maskL (bs.getD k 0) j) r = true := by
    cases hb : (bs.getD k 0).testBit j with
    | true => rw [hb] at h; simp only [Bool.not_true, chkR, Bool.and_eq_true] at h; exact h.2
    | false => rw [hb] at h; simp only [Bool.not_false, chkR, Bool.and_eq_true] at h; exact h.2
   obtain ⟨h1, h2, h3⟩ := chkR_get hr i pj (by simpa using hi)
   refine ⟨by omega, ?_, h3⟩
   rw [show j + 1 - 1 - (i + 1) = j - 1 - i from by omega]
   exact h2
theorem rowE_mk {bs : List Nat} {j : Nat} {pj : Oper × EE} : ∀ {l : List (Oper × EE)} {k0 : Nat}, (∀ k pk, l[k]? = some pk → pairE bs j (k0 + k) pj pk = true) → rowE bs j pj k0 l = true
 | [], _, _ => rfl
 | p :: r, k0, h => by
  simp only [rowE, Bool.and_eq_true]
  refine ⟨h 0 p rfl, rowE_mk fun k pk hk => ?_⟩
  have := h (k + 1) pk (by simpa using hk)
  rwa [show k0 + (k + 1) = k0.succ + k from by omega] at this
theorem allE_mk {bs : List Nat} {lo : Nat} {A : List (Oper × EE)} : ∀ {l : List (Oper × EE)} {j0 : Nat}, (∀ j pj, l[j]? = some pj → rowE bs (j0 + j) pj lo A = true) → allE bs lo A j0 l = true
 | [], _, _ => rfl
 | p :: r, j0, h => by
  simp only [allE, Bool.and_eq_true]
  refine ⟨h 0 p rfl, allE_mk fun j pj hj => ?_⟩
  have := h (j + 1) pj (by simpa using hj)
  rwa [show j0 + (j + 1) = j0.succ + j from by omega] at this
def PairsOK (bs : List Nat) (lo : Nat) (acc : List (Oper × EE)) : Prop := ∀ j k pj pk, acc[j]? = some pj → acc[k]? = some pk → pairE bs (lo + j) (lo + k) pj pk = true
theorem PairsOK.all {bs : List Nat} {lo : Nat} {acc : List (Oper × EE)} (h : PairsOK bs lo acc) : allE bs lo acc lo acc = true :=
 allE_mk fun j pj hj => rowE_mk fun k pk hk => h j k pj pk hj hk
theorem PairsOK.snoc {bs : List Nat} {lo k : Nat} {acc : List (Oper × EE)} {p : Oper × EE} (h : PairsOK bs lo acc) (hk : k = lo + acc.length) (hc : chkR p (maskL (bs.getD k 0) k) acc.reverse = true) : PairsOK bs lo (acc ++ [p]) := by
 have key : ∀ j pj, acc[j]? = some pj → ((bs.getD k 0).testBit (lo + j) = true ∨ (apartE pj p = true ∧ apartE p pj = true ∧ avE pj p = true)) ∧ avE p pj = true := fun j pj hj => by
  have hjl : j < acc.length := (List.getElem?_eq_some_iff.1 hj).1
  have hr : acc.reverse[acc.length - 1 - j]? = some pj := by
   rw [List.getElem?_reverse (by omega), show acc.length - 1 - (acc.length - 1 - j) = j from by omega]; exact hj
  obtain ⟨h1, h2, h3⟩ := chkR_get hc _ pj hr
  rw [show k - 1 - (acc.length - 1 - j) = lo + j from by omega] at h2
  exact ⟨h2, h3⟩
 intro i j pi pj hi hj
 have hcase : ∀ m q, (acc ++ [p])[m]? = some q → (m < acc.length ∧ acc[m]? = some q) ∨ (m = acc.length ∧ q = p) := fun m q hq => by
  rcases Nat.lt_or_ge m acc.length with hm | hm
  · rw [List.getElem?_append_left hm] at hq; exact .inl ⟨hm, hq⟩
  · rw [List.getElem?_append_right hm] at hq
    have h0 : m - acc.length = 0 := by
     rcases Nat.eq_zero_or_pos (m - acc.length) with h | h
     · exact h
     · rw [List.getElem?_eq_none (by simp; omega)] at hq; cases hq
    rw [h0] at hq
    simp only [List.getElem?_cons_zero, Option.some.injEq] at hq
    exact .inr ⟨by omega, hq.symm⟩
 rcases hcase i pi hi with ⟨hil, hi'⟩ | ⟨rfl, rfl⟩ <;> rcases hcase j pj hj with ⟨hjl, hj'⟩ | ⟨rfl, rfl⟩
 · exact h i j pi pj hi' hj'
 · obtain ⟨h1, h2⟩ := key i pi hi'
   rw [← hk]
   simp only [pairE, Bool.or_eq_true, Bool.and_eq_true]
   rcases h1 with h1 | ⟨h1, h3, h4⟩
   · exact .inr ⟨.inl (.inr h1), .inl h1⟩
   · exact .inr ⟨.inr h1, .inr h4⟩
 · obtain ⟨h1, h2⟩ := key j pj hj'
   rw [← hk]
   simp only [pairE, Bool.or_eq_true, Bool.and_eq_true]
   rcases h1 with h1 | ⟨h1, h3, h4⟩
   · exact .inr ⟨.inl (.inl h1), .inr h2⟩
   · exact .inr ⟨.inr h3, .inr h2⟩
 · simp [pairE, beqN]
theorem eOpsX_eq (ih : Ih) (L0 : List Oper) (bs : List Nat) : ∀ (l : List Oper) (j lo : Nat) (s sf : Es) (acc : List (Oper × EE)), j = lo + acc.length → PairsOK bs lo acc → eOpsX ih (cOpsD ty fnT orc ceF L0 bs l j) s acc.reverse = some sf → eOpsD ty fnT orc (ceF ih) ih L0 bs l j lo s acc = some sf
 | [], j, lo, s, sf, acc, hj, hp, h => by
  simp only [eOpsD, hp.all, cond_true]
  exact h
 | o :: r, j, lo, s, sf, acc, hj, hp, h => by
  simp only [cOpsD] at h
  simp only [eOpsD]
  rw [← cG_eq]
  generalize hcut : (barB j bs 0 && barB (Nat.succ j) bs 0) = cut at h ⊢
  have h : eOpsX ih (⟨o, cut, maskL (bs.getD j 0) j, (cG ty fnT orc ceF L0 o).f⟩ :: cOpsD ty fnT orc ceF L0 bs r (Nat.succ j)) s acc.reverse = some sf := by
   cases cut <;> exact h
  simp only [eOpsX] at h
  cases hd : dstB o s.nt' with
  | false => rw [hd] at h; cases h
  | true =>
   rw [hd] at h
   simp only at h ⊢
   cases hE : (cG ty fnT orc ceF L0 o).f ih (!cut) s with
   | none => rw [hE] at h; cases h
   | some R =>
    rw [hE] at h
    cases R with
    | ef E =>
     simp only at h ⊢
     cases hc : chkR (o, E) (maskL (bs.getD j 0) j) acc.reverse with
     | false => rw [hc] at h; cases h
     | true =>
      rw [hc, cond_true] at h
      cases hs' : stepE o.dst E s with
      | none => rw [hs'] at h; cases h
      | some s' =>
       rw [hs'] at h
       simp only at h ⊢
       refine eOpsX_eq ih L0 bs r _ lo s' sf _ (by simp; omega) (hp.snoc hj hc) ?_
       rw [List.reverse_append]
       exact h
    | st v s1 =>
     simp only at h ⊢
     cases cut with
     | false => cases h
     | true =>
      rw [cond_true] at h
      rw [hp.all, Bool.and_self, cond_true]
      cases hs' : putE o.dst v s1 with
      | none => rw [hs'] at h; cases h
      | some s' =>
       rw [hs'] at h
       simp only at h ⊢
       exact eOpsX_eq ih L0 bs r _ _ s' sf [] (by simp) (fun j k pj pk hj => by simp at hj) h
def cRegion (ops : Array Oper) (draw : Bool) : RgC :=
 match draw with
 | false => (match cOps ty fnT orc ceF ops.toList ops.toList with
  | l => ⟨fun ih s => eOpsC ih l s⟩)
 | true => (match edgesB 0 ops.toList, bef ops.toList [] with
  | true, bs => (match cOpsD ty fnT orc ceF ops.toList bs ops.toList 0 with
   | l => ⟨fun ih s => eOpsX ih l s []⟩)
  | false, _ => ⟨fun _ _ => none⟩)
theorem cRegion_eq (ops : Array Oper) (draw : Bool) (ih : Ih) (s sf : Es) (h : (cRegion ty fnT orc ceF ops draw).f ih s = some sf) : eRegion ty fnT orc (ceF ih) ih ops draw s = some sf := by
 cases draw with
 | false => rw [← h]; exact (eOpsC_eq ty fnT orc ceF ih _ _ s).symm
 | true =>
  unfold cRegion at h
  unfold eRegion
  simp only at h ⊢
  cases he : edgesB 0 ops.toList with
  | false => rw [he] at h; cases h
  | true =>
   rw [he] at h
   exact eOpsX_eq ty fnT orc ceF ih _ _ _ 0 0 s sf [] rfl (fun j k pj pk hj => by simp at hj) h
def cLoop (g : Es → Option (Exit × Es)) : Nat → Es → Option (Exit × Es)
 | 0, _ => none
 | k + 1, s => match g s with
  | some (.normal, ⟨nt, t, m, nb, q, nl, base⟩) => forceT t fun t => cLoop g k ⟨nt, t, m, nb, q, nl, base⟩
  | r => r
def comp : Code → CC
 | .skip => ⟨fun _ s => some (.normal, s)⟩
 | .region _ ops draw => (match cRegion ty fnT orc ceF ops draw with
  | ⟨g⟩ => ⟨fun ih s => match g ih s with
   | some s' => some (.normal, s')
   | none => none⟩)
 | .seq a b => (match comp a, comp b with
  | ⟨fa⟩, ⟨fb⟩ => ⟨fun ih s => match fa ih s with
   | some (.normal, s1) => fb ih s1
   | r => r⟩)
 | .cond x a b => (match comp a, comp b with
  | ⟨fa⟩, ⟨fb⟩ => ⟨fun ih s => match egv s x with
   | some (.v (.bool true)) => fa ih s
   | some (.v (.bool false)) => fb ih s
   | _ => none⟩)
 | .block id c => (match comp c with
  | ⟨f⟩ => ⟨fun ih s => match f ih s with
   | some (.exit j, s') => bif Nat.beq j id then some (.normal, s') else some (.exit j, s')
   | r => r⟩)
 | .loop c => (match comp c with
  | ⟨f⟩ => ⟨fun ih s => cLoop (f ih) 1000000 s⟩)
 | .scope c => (match comp c with
  | ⟨f⟩ => ⟨fun ih s => match f ih s with
   | some (.goto _, _) => none
   | r => r⟩)
 | .exit id => ⟨fun _ s => some (.exit id, s)⟩
 | .ret => ⟨fun _ s => some (.ret, s)⟩
 | .label _ => ⟨fun _ s => some (.normal, s)⟩
 | .goto l => ⟨fun _ s => some (.goto l, s)⟩
 | .rangeFunc g ps x y => ⟨fun ih s => exRange ty fnT ih g ps x y s⟩
 | .refuse _ => ⟨fun _ _ => none⟩
def run : Nat → Ih
 | 0 => fun _ _ => none
 | f + 1 => fun c s => match comp ty fnT orc ceF c with
  | ⟨F⟩ => F (run f) s
def SoundAt (P : Program) (g : Es → Option (Exit × Es)) (c : Code) : Prop :=
 ∀ s e s', g s = some (e, s') → ∀ (L : Nat → Nat) (σ : Sg) (Φ : Exit → Sg → Prop), Rel L s σ → (∀ L' σ', Rel L' s' σ' → Fol L L' s s' σ σ' → Φ e σ') → VC P c σ Φ
theorem SoundAt.ends {g : Es → Option (Exit × Es)} {c : Code} (hS : SoundAt P g c) {s s' : Es} {e : Exit} (h : g s = some (e, s')) {L : Nat → Nat} {σ : Sg} (hR : Rel L s σ) : VC P c σ (Ends L s σ e s') :=
 hS s e s' h L σ _ hR fun L' σ' h1 h2 => ⟨rfl, L', h1, h2⟩
theorem cLoop_sound {g : Es → Option (Exit × Es)} {c : Code} (hS : SoundAt P g c) {F : Fence} {n : Nat} {X : Cx} {Φ : Exit → Sg → Prop} (hF : Wd F) (hlp : ∀ l, F.round = some l → ∃ r, (l, r) ∈ X.L) :
 ∀ (k : Nat) (s : Es) (e : Exit) (s' : Es) (L : Nat → Nat) (σ : Sg) (a : Act) (w : World), cLoop g k s = some (e, s') → Rel L s σ → (∀ L' σ', Rel L' s' σ' → Fol L L' s s' σ σ' → Φ e σ') → σ.Ok → Sat X σ a w →
  LoopN F n P c (QΦ X Φ) k a w
 | 0, s, e, s', L, σ, a, w, h, _, _, _, _ => by cases h
 | k + 1, s, e, s', L, σ, a, w, h, hR, hΦ, hok, hsat => by
  simp only [cLoop] at h
  show c.wpIn F n P _ a w
  split at h
  · rename_i nt t m nb q nl base h1
    rw [forceT_eq] at h
    refine wpIn_mono (SoundAt.ends hS h1 hR F n X a w hF hlp hok hsat) fun e' a' w' hq => ?_
    obtain ⟨σ1, ⟨rfl, L1, q1, q2⟩, hok1, hsat1⟩ := hq
    exact cLoop_sound hS hF hlp k _ e s' L1 σ1 a' w' h q1 (fun L' σ' g1 g2 => hΦ L' σ' g1 (q2.trans g2)) hok1 hsat1
  · rename_i hne
    refine wpIn_mono (SoundAt.ends hS h hR F n X a w hF hlp hok hsat) fun e' a' w' hq => ?_
    obtain ⟨σ1, ⟨rfl, L1, q1, q2⟩, hok1, hsat1⟩ := hq
    have hex : QΦ X Φ e' a' w' := ⟨σ1, hΦ L1 σ1 q1 q2, hok1, hsat1⟩
    cases e' with
    | normal =>
     obtain ⟨nt, t, m, nb, q, nl, base⟩ := s'
     exact absurd h (hne nt t m nb q nl base)
    | _ => exact hex
variable {ty fnT orc ceF}
variable (hty : ∀ k ti, ty.f k = some ti → T.ty k = some ti) (hfn : FnOK P T fnT) (horc : OrcOK P T orc) (hce : ∀ ih, Sound P ih → CeOK T (ceF ih)) (hm : P.follows .mixedOrders = true)
include hty hfn horc hce hm in
theorem comp_sound {ih : Ih} (hS : Sound P ih) : ∀ c : Code, SoundAt P ((comp ty fnT orc ceF c).f ih) c := by
 intro c
 induction c with
 | skip =>
  intro s e s' h L σ Φ hR hΦ
  cases h
  exact fun F n X a w hF hlp hok hsat => wpIn_skip ⟨σ, hΦ L σ hR (Fol.refl _ _ _), hok, hsat⟩
 | region id ops draw =>
  intro s e s' h L σ Φ hR hΦ
  simp only [comp] at h
  cases hc : cRegion ty fnT orc ceF ops draw with
  | mk g =>
   rw [hc] at h
   simp only at h
   split at h
   · rename_i s1 h1
     cases h
     have h2 := cRegion_eq ty fnT orc ceF ops draw ih s s' (by rw [hc]; exact h1)
     exact eRegion_sound T hty hfn horc (hce ih hS) hm hS h2 hR hΦ
   · cases h
 | seq a b iha ihb =>
  intro s e s' h L σ Φ hR hΦ
  simp only [comp] at h
  cases ha : comp ty fnT orc ceF a with
  | mk fa =>
   cases hb : comp ty fnT orc ceF b with
   | mk fb =>
    rw [ha, hb] at h
    rw [ha] at iha
    rw [hb] at ihb
    have iha : SoundAt P (fa ih) a := iha
    have ihb : SoundAt P (fb ih) b := ihb
    simp only at h
    split at h
    · rename_i s1 h1
      refine VC.seq (f := fun σ' => ∃ L', Rel L' s1 σ' ∧ Fol L L' s s1 σ σ') ((SoundAt.ends iha h1 hR).mono fun e' σ' ⟨he, hx⟩ => ?_) fun σ1 ⟨L1, q1, q2⟩ => ihb _ _ _ h L1 σ1 Φ q1 fun L' σ' g1 g2 => hΦ L' σ' g1 (q2.trans g2)
      subst he; exact hx
    · rename_i hne
      refine VC.seq (f := fun _ => False) ((SoundAt.ends iha h hR).mono fun e' σ' ⟨he, L1, q1, q2⟩ => ?_) fun σ1 hf => hf.elim
      subst he
      cases e' with
      | normal => exact absurd h (hne s')
      | _ => exact hΦ L1 σ' q1 q2
 | cond x a b iha ihb =>
  intro s e s' h L σ Φ hR hΦ F n X ac w hF hlp hok hsat
  simp only [comp] at h
  cases ha : comp ty fnT orc ceF a with
  | mk fa =>
   cases hb : comp ty fnT orc ceF b with
   | mk fb =>
    rw [ha, hb] at h
    rw [ha] at iha
    rw [hb] at ihb
    have iha : SoundAt P (fa ih) a := iha
    have ihb : SoundAt P (fb ih) b := ihb
    simp only at h
    split at h
    · rename_i hx
      have hev : ac.eval x = .bool true := by
       obtain ⟨β, D, hs'⟩ := hsat
       exact gv_eval (hs'.sees ⟨.v undef, [], [], os x, []⟩) (egv_gv hR hx) (fun k hk => hk)
      refine wpIn_cond hev ?_
      exact iha _ _ _ h L σ Φ hR hΦ F n X ac w hF hlp hok hsat
    · rename_i hx
      have hev : ac.eval x = .bool false := by
       obtain ⟨β, D, hs'⟩ := hsat
       exact gv_eval (hs'.sees ⟨.v undef, [], [], os x, []⟩) (egv_gv hR hx) (fun k hk => hk)
      refine wpIn_cond hev ?_
      exact ihb _ _ _ h L σ Φ hR hΦ F n X ac w hF hlp hok hsat
    · cases h
 | block id c ihc =>
  intro s e s' h L σ Φ hR hΦ F n X a w hF hlp hok hsat
  simp only [comp] at h
  cases hc : comp ty fnT orc ceF c with
  | mk f =>
   rw [hc] at h ihc
   have ihc : SoundAt P (f ih) c := ihc
   simp only at h
   split at h
   · rename_i j s1 h1
     refine wpIn_block (wpIn_mono (SoundAt.ends ihc h1 hR F n X a w hF hlp hok hsat) fun e' a' w' hq => ?_)
     obtain ⟨σ1, ⟨rfl, L1, q1, q2⟩, hok1, hsat1⟩ := hq
     simp only [Exit.inBlock]
     cases hb : Nat.beq j id with
     | true =>
      rw [hb, cond_true, Option.some.injEq, Prod.mk.injEq] at h
      obtain ⟨rfl, rfl⟩ := h
      rw [if_pos (Nat.eq_of_beq_eq_true hb)]
      exact ⟨σ1, hΦ L1 σ1 q1 q2, hok1, hsat1⟩
     | false =>
      rw [hb, cond_false, Option.some.injEq, Prod.mk.injEq] at h
      obtain ⟨rfl, rfl⟩ := h
      rw [if_neg (Nat.ne_of_beq_eq_false hb)]
      exact ⟨σ1, hΦ L1 σ1 q1 q2, hok1, hsat1⟩
   · rename_i hne
     refine wpIn_block (wpIn_mono (SoundAt.ends ihc h hR F n X a w hF hlp hok hsat) fun e' a' w' hq => ?_)
     obtain ⟨σ1, ⟨rfl, L1, q1, q2⟩, hok1, hsat1⟩ := hq
     have hex : QΦ X Φ e' a' w' := ⟨σ1, hΦ L1 σ1 q1 q2, hok1, hsat1⟩
     cases e' with
     | exit j => exact absurd h (hne j s')
     | _ => exact hex
 | loop c ihc =>
  intro s e s' h L σ Φ hR hΦ F n X a w hF hlp hok hsat
  simp only [comp] at h
  cases hc : comp ty fnT orc ceF c with
  | mk f =>
   rw [hc] at h ihc
   have ihc : SoundAt P (f ih) c := ihc
   exact loopN_wp (cLoop_sound ihc hF hlp _ s e s' L σ a w h hR hΦ hok hsat)
 | scope c ihc =>
  intro s e s' h L σ Φ hR hΦ F n X a w hF hlp hok hsat
  simp only [comp] at h
  cases hc : comp ty fnT orc ceF c with
  | mk f =>
   rw [hc] at h ihc
   have ihc : SoundAt P (f ih) c := ihc
   simp only at h
   split at h
   · cases h
   · rename_i hne
     refine wpIn_scope (wpIn_mono (SoundAt.ends ihc h hR F n X a w hF hlp hok hsat) fun e' a' w' hq => ?_)
     obtain ⟨σ1, ⟨rfl, L1, q1, q2⟩, hok1, hsat1⟩ := hq
     have hex : QΦ X Φ e' a' w' := ⟨σ1, hΦ L1 σ1 q1 q2, hok1, hsat1⟩
     cases e' with
     | goto l => exact absurd h (hne l s')
     | _ => exact hex
 | exit id =>
  intro s e s' h L σ Φ hR hΦ
  cases h
  exact fun F n X a w hF hlp hok hsat => wpIn_exit ⟨σ, hΦ L σ hR (Fol.refl _ _ _), hok, hsat⟩
 | ret =>
  intro s e s' h L σ Φ hR hΦ
  cases h
  exact fun F n X a w hF hlp hok hsat => wpIn_ret ⟨σ, hΦ L σ hR (Fol.refl _ _ _), hok, hsat⟩
 | label l =>
  intro s e s' h L σ Φ hR hΦ
  cases h
  exact fun F n X a w hF hlp hok hsat => wpIn_label ⟨σ, hΦ L σ hR (Fol.refl _ _ _), hok, hsat⟩
 | goto l =>
  intro s e s' h L σ Φ hR hΦ
  cases h
  exact fun F n X a w hF hlp hok hsat => wpIn_goto ⟨σ, hΦ L σ hR (Fol.refl _ _ _), hok, hsat⟩
 | rangeFunc g ps x y _ _ =>
  intro s e s' h L σ Φ hR hΦ
  exact range_sound T hty hfn hm hS h hR hΦ
 | refuse _ =>
  intro s e s' h L σ Φ hR hΦ
  cases h
include hty hfn horc hce hm in
theorem run_sound : ∀ f : Nat, Sound P (run ty fnT orc ceF f)
 | 0 => fun c s e s' h => by cases h
 | f + 1 => fun c s e s' h => by
  have hc := comp_sound T hty hfn horc hce hm (run_sound f) c
  have h : (match comp ty fnT orc ceF c with | ⟨F⟩ => F (run ty fnT orc ceF f) s) = some (e, s') := h
  cases hcc : comp ty fnT orc ceF c with
  | mk F =>
   rw [hcc] at h hc
   exact hc s e s' h
variable (ty fnT orc ceF) in
def runTop (f k : Nat) (args : List Value) : Option EV :=
 match fnT k with
 | some ⟨nt, c, rs⟩ => bif Nat.ble args.length nt then (match run ty fnT orc ceF f c ⟨nt, slotsT 0 (mapV args), .e, 0, [], 0, 0⟩ with
  | some (e, ⟨_, t, m, _, _, _, _⟩) => bif isEnd e then (match resE ty.f t m rs with
   | some l => some (oneE l)
   | none => none) else none
  | none => none) else none
 | none => none
include hty hfn horc hce hm in
theorem runTop_calls {f k : Nat} {args : List Value} {v : Value} (h : runTop ty fnT orc ceF f k args = some (.v v)) (w : World) :
 Calls P k args.toArray w fun e w' => e = .returned v ∧ Below w.heap.size w w' := by
 unfold runTop at h
 split at h
 · rename_i nt c rs hf
   cases hc : Nat.ble args.length nt with
   | false => rw [hc] at h; cases h
   | true =>
    rw [hc, cond_true] at h
    rw [Nat.ble_eq] at hc
    obtain ⟨fn, f1, f2, f3, f4, f5⟩ := hfn _ _ hf
    split at h
    · rename_i e nt2 t2 m2 nb2 q2 nl2 b2 hev
      cases he : isEnd e with
      | false => rw [he] at h; cases h
      | true =>
       rw [he, cond_true] at h
       split at h
       · rename_i l hl
         simp only [Option.some.injEq] at h
         refine calls_valV T hm f1 f2 f3 args hc ?_
         have hR0 : Rel (fun _ => 0) ⟨nt, slotsT 0 (mapV args), .e, 0, [], 0, 0⟩ ⟨nt, slotsOf 0 (args.map .v), [], 0, Below w.heap.size w, z0⟩ :=
          ⟨rfl, fun k x hk => (by have := slotsT_get (fun _ => 0) hk; rwa [mapV_eq, EV.res_v] at this), fun i b hi => (by cases hi), rfl, rfl, fun i lp hi => (by simp at hi), fun p hp => (by cases hp), fun lp hlp => (by cases hlp), rfl⟩
         refine run_sound T hty hfn horc hce hm f _ _ _ _ hev (fun _ => 0) _ _ hR0 fun L' σ' hR' hF' => ?_
         have key : resK T σ' fn.results.toList fun l' => oneK l' fun s => (∀ β, s.c β = v) ∧ ∀ w', σ'.h w' → Below w.heap.size w w' := by
          rw [f4]
          refine resE_K T hty hR' hl (oneE_K L' ?_)
          rw [h]
          exact ⟨fun β => rfl, fun w' hw => by rw [hF'.h] at hw; exact hw⟩
         cases e <;> first | exact key | cases he
       · cases h
    · cases h
 · cases h
end
end
end Go.Proofs.YtkbfcofifhngfaaGreat.Tx
namespace Go.Proofs.YtkbfcofifhngfaaGreat
open Go Tx
set_option maxRecDepth 100000
set_option linter.unusedVariables false
noncomputable def tyT : Tr TI := Tr.of tys
noncomputable def tyP : Ty Tryz.prog := ⟨tyT.get, semP Tryz.prog, fun s v h w => semP_ok s v h w⟩
theorem tyP_ok : ∀ k ti, tyP.f k = some ti → env.ty k = some ti := fun k ti h => Tr.of_get _ _ _ h
theorem fnk3 : ∃ fn : Func, Tryz.prog.funcs[3]? = some fn ∧ fn.body = some body3 ∧ fn.ntmps = Tryz.f3.ntmps ∧ fn.results.toList = Tryz.f3.results.toList ∧ env.fn 3 = true := ⟨Tryz.f3, Tryz.func3, has3, rfl, rfl, by kernel_rfl⟩
theorem fnk4 : ∃ fn : Func, Tryz.prog.funcs[4]? = some fn ∧ fn.body = some body4 ∧ fn.ntmps = Tryz.f4.ntmps ∧ fn.results.toList = Tryz.f4.results.toList ∧ env.fn 4 = true := ⟨Tryz.f4, Tryz.func4, has4, rfl, rfl, by kernel_rfl⟩
theorem fnk5 : ∃ fn : Func, Tryz.prog.funcs[5]? = some fn ∧ fn.body = some body5 ∧ fn.ntmps = Tryz.f5.ntmps ∧ fn.results.toList = Tryz.f5.results.toList ∧ env.fn 5 = true := ⟨Tryz.f5, Tryz.func5, has5, rfl, rfl, by kernel_rfl⟩
theorem fnk6 : ∃ fn : Func, Tryz.prog.funcs[6]? = some fn ∧ fn.body = some body6 ∧ fn.ntmps = Tryz.f6.ntmps ∧ fn.results.toList = Tryz.f6.results.toList ∧ env.fn 6 = true := ⟨Tryz.f6, Tryz.func6, has6, rfl, rfl, by kernel_rfl⟩
theorem fnk7 : ∃ fn : Func, Tryz.prog.funcs[7]? = some fn ∧ fn.body = some body7 ∧ fn.ntmps = Tryz.f7.ntmps ∧ fn.results.toList = Tryz.f7.results.toList ∧ env.fn 7 = true := ⟨Tryz.f7, Tryz.func7, has7, rfl, rfl, by kernel_rfl⟩
theorem fnk8 : ∃ fn : Func, Tryz.prog.funcs[8]? = some fn ∧ fn.body = some body8 ∧ fn.ntmps = Tryz.f8.ntmps ∧ fn.results.toList = Tryz.f8.results.toList ∧ env.fn 8 = true := ⟨Tryz.f8, Tryz.func8, has8, rfl, rfl, by kernel_rfl⟩
theorem fnk9 : ∃ fn : Func, Tryz.prog.funcs[9]? = some fn ∧ fn.body = some body9 ∧ fn.ntmps = Tryz.f9.ntmps ∧ fn.results.toList = Tryz.f9.results.toList ∧ env.fn 9 = true := ⟨Tryz.f9, Tryz.func9, has9, rfl, rfl, by kernel_rfl⟩
theorem fnk10 : ∃ fn : Func, Tryz.prog.funcs[10]? = some fn ∧ fn.body = some body10 ∧ fn.ntmps = Tryz.f10.ntmps ∧ fn.results.toList = Tryz.f10.results.toList ∧ env.fn 10 = true := ⟨Tryz.f10, Tryz.func10, has10, rfl, rfl, by kernel_rfl⟩
theorem fnk11 : ∃ fn : Func, Tryz.prog.funcs[11]? = some fn ∧ fn.body = some body11 ∧ fn.ntmps = Tryz.f11.ntmps ∧ fn.results.toList = Tryz.f11.results.toList ∧ env.fn 11 = true := ⟨Tryz.f11, Tryz.func11, has11, rfl, rfl, by kernel_rfl⟩
theorem fnk12 : ∃ fn : Func, Tryz.prog.funcs[12]? = some fn ∧ fn.body = some body12 ∧ fn.ntmps = Tryz.f12.ntmps ∧ fn.results.toList = Tryz.f12.results.toList ∧ env.fn 12 = true := ⟨Tryz.f12, Tryz.func12, has12, rfl, rfl, by kernel_rfl⟩
theorem fnk13 : ∃ fn : Func, Tryz.prog.funcs[13]? = some fn ∧ fn.body = some body13 ∧ fn.ntmps = Tryz.f13.ntmps ∧ fn.results.toList = Tryz.f13.results.toList ∧ env.fn 13 = true := ⟨Tryz.f13, Tryz.func13, has13, rfl, rfl, by kernel_rfl⟩
theorem fnk14 : ∃ fn : Func, Tryz.prog.funcs[14]? = some fn ∧ fn.body = some body14 ∧ fn.ntmps = Tryz.f14.ntmps ∧ fn.results.toList = Tryz.f14.results.toList ∧ env.fn 14 = true := ⟨Tryz.f14, Tryz.func14, has14, rfl, rfl, by kernel_rfl⟩
theorem fnk15 : ∃ fn : Func, Tryz.prog.funcs[15]? = some fn ∧ fn.body = some body15 ∧ fn.ntmps = Tryz.f15.ntmps ∧ fn.results.toList = Tryz.f15.results.toList ∧ env.fn 15 = true := ⟨Tryz.f15, Tryz.func15, has15, rfl, rfl, by kernel_rfl⟩
theorem fnk16 : ∃ fn : Func, Tryz.prog.funcs[16]? = some fn ∧ fn.body = some body16 ∧ fn.ntmps = Tryz.f16.ntmps ∧ fn.results.toList = Tryz.f16.results.toList ∧ env.fn 16 = true := ⟨Tryz.f16, Tryz.func16, has16, rfl, rfl, by kernel_rfl⟩
theorem fnk17 : ∃ fn : Func, Tryz.prog.funcs[17]? = some fn ∧ fn.body = some body17 ∧ fn.ntmps = Tryz.f17.ntmps ∧ fn.results.toList = Tryz.f17.results.toList ∧ env.fn 17 = true := ⟨Tryz.f17, Tryz.func17, has17, rfl, rfl, by kernel_rfl⟩
theorem fnk18 : ∃ fn : Func, Tryz.prog.funcs[18]? = some fn ∧ fn.body = some body18 ∧ fn.ntmps = Tryz.f18.ntmps ∧ fn.results.toList = Tryz.f18.results.toList ∧ env.fn 18 = true := ⟨Tryz.f18, Tryz.func18, has18, rfl, rfl, by kernel_rfl⟩
theorem fnk19 : ∃ fn : Func, Tryz.prog.funcs[19]? = some fn ∧ fn.body = some body19 ∧ fn.ntmps = Tryz.f19.ntmps ∧ fn.results.toList = Tryz.f19.results.toList ∧ env.fn 19 = true := ⟨Tryz.f19, Tryz.func19, has19, rfl, rfl, by kernel_rfl⟩
theorem fnk20 : ∃ fn : Func, Tryz.prog.funcs[20]? = some fn ∧ fn.body = some body20 ∧ fn.ntmps = Tryz.f20.ntmps ∧ fn.results.toList = Tryz.f20.results.toList ∧ env.fn 20 = true := ⟨Tryz.f20, Tryz.func20, has20, rfl, rfl, by kernel_rfl⟩
theorem fnk21 : ∃ fn : Func, Tryz.prog.funcs[21]? = some fn ∧ fn.body = some body21 ∧ fn.ntmps = Tryz.f21.ntmps ∧ fn.results.toList = Tryz.f21.results.toList ∧ env.fn 21 = true := ⟨Tryz.f21, Tryz.func21, has21, rfl, rfl, by kernel_rfl⟩
theorem fnk22 : ∃ fn : Func, Tryz.prog.funcs[22]? = some fn ∧ fn.body = some body22 ∧ fn.ntmps = Tryz.f22.ntmps ∧ fn.results.toList = Tryz.f22.results.toList ∧ env.fn 22 = true := ⟨Tryz.f22, Tryz.func22, has22, rfl, rfl, by kernel_rfl⟩
theorem fnk23 : ∃ fn : Func, Tryz.prog.funcs[23]? = some fn ∧ fn.body = some body23 ∧ fn.ntmps = Tryz.f23.ntmps ∧ fn.results.toList = Tryz.f23.results.toList ∧ env.fn 23 = true := ⟨Tryz.f23, Tryz.func23, has23, rfl, rfl, by kernel_rfl⟩
theorem fnk24 : ∃ fn : Func, Tryz.prog.funcs[24]? = some fn ∧ fn.body = some body24 ∧ fn.ntmps = Tryz.f24.ntmps ∧ fn.results.toList = Tryz.f24.results.toList ∧ env.fn 24 = true := ⟨Tryz.f24, Tryz.func24, has24, rfl, rfl, by kernel_rfl⟩
theorem fnk25 : ∃ fn : Func, Tryz.prog.funcs[25]? = some fn ∧ fn.body = some body25 ∧ fn.ntmps = Tryz.f25.ntmps ∧ fn.results.toList = Tryz.f25.results.toList ∧ env.fn 25 = true := ⟨Tryz.f25, Tryz.func25, has25, rfl, rfl, by kernel_rfl⟩
theorem fnk26 : ∃ fn : Func, Tryz.prog.funcs[26]? = some fn ∧ fn.body = some body26 ∧ fn.ntmps = Tryz.f26.ntmps ∧ fn.results.toList = Tryz.f26.results.toList ∧ env.fn 26 = true := ⟨Tryz.f26, Tryz.func26, has26, rfl, rfl, by kernel_rfl⟩
theorem fnk27 : ∃ fn : Func, Tryz.prog.funcs[27]? = some fn ∧ fn.body = some body27 ∧ fn.ntmps = Tryz.f27.ntmps ∧ fn.results.toList = Tryz.f27.results.toList ∧ env.fn 27 = true := ⟨Tryz.f27, Tryz.func27, has27, rfl, rfl, by kernel_rfl⟩
theorem fnk28 : ∃ fn : Func, Tryz.prog.funcs[28]? = some fn ∧ fn.body = some body28 ∧ fn.ntmps = Tryz.f28.ntmps ∧ fn.results.toList = Tryz.f28.results.toList ∧ env.fn 28 = true := ⟨Tryz.f28, Tryz.func28, has28, rfl, rfl, by kernel_rfl⟩
theorem fnk29 : ∃ fn : Func, Tryz.prog.funcs[29]? = some fn ∧ fn.body = some body29 ∧ fn.ntmps = Tryz.f29.ntmps ∧ fn.results.toList = Tryz.f29.results.toList ∧ env.fn 29 = true := ⟨Tryz.f29, Tryz.func29, has29, rfl, rfl, by kernel_rfl⟩
theorem fnk30 : ∃ fn : Func, Tryz.prog.funcs[30]? = some fn ∧ fn.body = some body30 ∧ fn.ntmps = Tryz.f30.ntmps ∧ fn.results.toList = Tryz.f30.results.toList ∧ env.fn 30 = true := ⟨Tryz.f30, Tryz.func30, has30, rfl, rfl, by kernel_rfl⟩
theorem fnk31 : ∃ fn : Func, Tryz.prog.funcs[31]? = some fn ∧ fn.body = some body31 ∧ fn.ntmps = Tryz.f31.ntmps ∧ fn.results.toList = Tryz.f31.results.toList ∧ env.fn 31 = true := ⟨Tryz.f31, Tryz.func31, has31, rfl, rfl, by kernel_rfl⟩
theorem fnk32 : ∃ fn : Func, Tryz.prog.funcs[32]? = some fn ∧ fn.body = some body32 ∧ fn.ntmps = Tryz.f32.ntmps ∧ fn.results.toList = Tryz.f32.results.toList ∧ env.fn 32 = true := ⟨Tryz.f32, Tryz.func32, has32, rfl, rfl, by kernel_rfl⟩
theorem fnk33 : ∃ fn : Func, Tryz.prog.funcs[33]? = some fn ∧ fn.body = some body33 ∧ fn.ntmps = Tryz.f33.ntmps ∧ fn.results.toList = Tryz.f33.results.toList ∧ env.fn 33 = true := ⟨Tryz.f33, Tryz.func33, has33, rfl, rfl, by kernel_rfl⟩
theorem fnk34 : ∃ fn : Func, Tryz.prog.funcs[34]? = some fn ∧ fn.body = some body34 ∧ fn.ntmps = Tryz.f34.ntmps ∧ fn.results.toList = Tryz.f34.results.toList ∧ env.fn 34 = true := ⟨Tryz.f34, Tryz.func34, has34, rfl, rfl, by kernel_rfl⟩
theorem fnk35 : ∃ fn : Func, Tryz.prog.funcs[35]? = some fn ∧ fn.body = some body35 ∧ fn.ntmps = Tryz.f35.ntmps ∧ fn.results.toList = Tryz.f35.results.toList ∧ env.fn 35 = true := ⟨Tryz.f35, Tryz.func35, has35, rfl, rfl, by kernel_rfl⟩
theorem fnk36 : ∃ fn : Func, Tryz.prog.funcs[36]? = some fn ∧ fn.body = some body36 ∧ fn.ntmps = Tryz.f36.ntmps ∧ fn.results.toList = Tryz.f36.results.toList ∧ env.fn 36 = true := ⟨Tryz.f36, Tryz.func36, has36, rfl, rfl, by kernel_rfl⟩
theorem fnk37 : ∃ fn : Func, Tryz.prog.funcs[37]? = some fn ∧ fn.body = some body37 ∧ fn.ntmps = Tryz.f37.ntmps ∧ fn.results.toList = Tryz.f37.results.toList ∧ env.fn 37 = true := ⟨Tryz.f37, Tryz.func37, has37, rfl, rfl, by kernel_rfl⟩
theorem fnk38 : ∃ fn : Func, Tryz.prog.funcs[38]? = some fn ∧ fn.body = some body38 ∧ fn.ntmps = Tryz.f38.ntmps ∧ fn.results.toList = Tryz.f38.results.toList ∧ env.fn 38 = true := ⟨Tryz.f38, Tryz.func38, has38, rfl, rfl, by kernel_rfl⟩
theorem fnk39 : ∃ fn : Func, Tryz.prog.funcs[39]? = some fn ∧ fn.body = some body39 ∧ fn.ntmps = Tryz.f39.ntmps ∧ fn.results.toList = Tryz.f39.results.toList ∧ env.fn 39 = true := ⟨Tryz.f39, Tryz.func39, has39, rfl, rfl, by kernel_rfl⟩
theorem fnk40 : ∃ fn : Func, Tryz.prog.funcs[40]? = some fn ∧ fn.body = some body40 ∧ fn.ntmps = Tryz.f40.ntmps ∧ fn.results.toList = Tryz.f40.results.toList ∧ env.fn 40 = true := ⟨Tryz.f40, Tryz.func40, has40, rfl, rfl, by kernel_rfl⟩
theorem fnk41 : ∃ fn : Func, Tryz.prog.funcs[41]? = some fn ∧ fn.body = some body41 ∧ fn.ntmps = Tryz.f41.ntmps ∧ fn.results.toList = Tryz.f41.results.toList ∧ env.fn 41 = true := ⟨Tryz.f41, Tryz.func41, has41, rfl, rfl, by kernel_rfl⟩
theorem fnk42 : ∃ fn : Func, Tryz.prog.funcs[42]? = some fn ∧ fn.body = some body42 ∧ fn.ntmps = Tryz.f42.ntmps ∧ fn.results.toList = Tryz.f42.results.toList ∧ env.fn 42 = true := ⟨Tryz.f42, Tryz.func42, has42, rfl, rfl, by kernel_rfl⟩
theorem fnk43 : ∃ fn : Func, Tryz.prog.funcs[43]? = some fn ∧ fn.body = some body43 ∧ fn.ntmps = Tryz.f43.ntmps ∧ fn.results.toList = Tryz.f43.results.toList ∧ env.fn 43 = true := ⟨Tryz.f43, Tryz.func43, has43, rfl, rfl, by kernel_rfl⟩
theorem fnk44 : ∃ fn : Func, Tryz.prog.funcs[44]? = some fn ∧ fn.body = some body44 ∧ fn.ntmps = Tryz.f44.ntmps ∧ fn.results.toList = Tryz.f44.results.toList ∧ env.fn 44 = true := ⟨Tryz.f44, Tryz.func44, has44, rfl, rfl, by kernel_rfl⟩
theorem fnk45 : ∃ fn : Func, Tryz.prog.funcs[45]? = some fn ∧ fn.body = some body45 ∧ fn.ntmps = Tryz.f45.ntmps ∧ fn.results.toList = Tryz.f45.results.toList ∧ env.fn 45 = true := ⟨Tryz.f45, Tryz.func45, has45, rfl, rfl, by kernel_rfl⟩
theorem fnk46 : ∃ fn : Func, Tryz.prog.funcs[46]? = some fn ∧ fn.body = some body46 ∧ fn.ntmps = Tryz.f46.ntmps ∧ fn.results.toList = Tryz.f46.results.toList ∧ env.fn 46 = true := ⟨Tryz.f46, Tryz.func46, has46, rfl, rfl, by kernel_rfl⟩
theorem fnk47 : ∃ fn : Func, Tryz.prog.funcs[47]? = some fn ∧ fn.body = some body47 ∧ fn.ntmps = Tryz.f47.ntmps ∧ fn.results.toList = Tryz.f47.results.toList ∧ env.fn 47 = true := ⟨Tryz.f47, Tryz.func47, has47, rfl, rfl, by kernel_rfl⟩
theorem fnk48 : ∃ fn : Func, Tryz.prog.funcs[48]? = some fn ∧ fn.body = some body48 ∧ fn.ntmps = Tryz.f48.ntmps ∧ fn.results.toList = Tryz.f48.results.toList ∧ env.fn 48 = true := ⟨Tryz.f48, Tryz.func48, has48, rfl, rfl, by kernel_rfl⟩
theorem fnk49 : ∃ fn : Func, Tryz.prog.funcs[49]? = some fn ∧ fn.body = some body49 ∧ fn.ntmps = Tryz.f49.ntmps ∧ fn.results.toList = Tryz.f49.results.toList ∧ env.fn 49 = true := ⟨Tryz.f49, Tryz.func49, has49, rfl, rfl, by kernel_rfl⟩
theorem fnk50 : ∃ fn : Func, Tryz.prog.funcs[50]? = some fn ∧ fn.body = some body50 ∧ fn.ntmps = Tryz.f50.ntmps ∧ fn.results.toList = Tryz.f50.results.toList ∧ env.fn 50 = true := ⟨Tryz.f50, Tryz.func50, has50, rfl, rfl, by kernel_rfl⟩
theorem fnk51 : ∃ fn : Func, Tryz.prog.funcs[51]? = some fn ∧ fn.body = some body51 ∧ fn.ntmps = Tryz.f51.ntmps ∧ fn.results.toList = Tryz.f51.results.toList ∧ env.fn 51 = true := ⟨Tryz.f51, Tryz.func51, has51, rfl, rfl, by kernel_rfl⟩
theorem fnk52 : ∃ fn : Func, Tryz.prog.funcs[52]? = some fn ∧ fn.body = some body52 ∧ fn.ntmps = Tryz.f52.ntmps ∧ fn.results.toList = Tryz.f52.results.toList ∧ env.fn 52 = true := ⟨Tryz.f52, Tryz.func52, has52, rfl, rfl, by kernel_rfl⟩
theorem fnk53 : ∃ fn : Func, Tryz.prog.funcs[53]? = some fn ∧ fn.body = some body53 ∧ fn.ntmps = Tryz.f53.ntmps ∧ fn.results.toList = Tryz.f53.results.toList ∧ env.fn 53 = true := ⟨Tryz.f53, Tryz.func53, has53, rfl, rfl, by kernel_rfl⟩
theorem fnk54 : ∃ fn : Func, Tryz.prog.funcs[54]? = some fn ∧ fn.body = some body54 ∧ fn.ntmps = Tryz.f54.ntmps ∧ fn.results.toList = Tryz.f54.results.toList ∧ env.fn 54 = true := ⟨Tryz.f54, Tryz.func54, has54, rfl, rfl, by kernel_rfl⟩
theorem fnk55 : ∃ fn : Func, Tryz.prog.funcs[55]? = some fn ∧ fn.body = some body55 ∧ fn.ntmps = Tryz.f55.ntmps ∧ fn.results.toList = Tryz.f55.results.toList ∧ env.fn 55 = true := ⟨Tryz.f55, Tryz.func55, has55, rfl, rfl, by kernel_rfl⟩
theorem fnk56 : ∃ fn : Func, Tryz.prog.funcs[56]? = some fn ∧ fn.body = some body56 ∧ fn.ntmps = Tryz.f56.ntmps ∧ fn.results.toList = Tryz.f56.results.toList ∧ env.fn 56 = true := ⟨Tryz.f56, Tryz.func56, has56, rfl, rfl, by kernel_rfl⟩
theorem fnk57 : ∃ fn : Func, Tryz.prog.funcs[57]? = some fn ∧ fn.body = some body57 ∧ fn.ntmps = Tryz.f57.ntmps ∧ fn.results.toList = Tryz.f57.results.toList ∧ env.fn 57 = true := ⟨Tryz.f57, Tryz.func57, has57, rfl, rfl, by kernel_rfl⟩
theorem fnk58 : ∃ fn : Func, Tryz.prog.funcs[58]? = some fn ∧ fn.body = some body58 ∧ fn.ntmps = Tryz.f58.ntmps ∧ fn.results.toList = Tryz.f58.results.toList ∧ env.fn 58 = true := ⟨Tryz.f58, Tryz.func58, has58, rfl, rfl, by kernel_rfl⟩
theorem fnk59 : ∃ fn : Func, Tryz.prog.funcs[59]? = some fn ∧ fn.body = some body59 ∧ fn.ntmps = Tryz.f59.ntmps ∧ fn.results.toList = Tryz.f59.results.toList ∧ env.fn 59 = true := ⟨Tryz.f59, Tryz.func59, has59, rfl, rfl, by kernel_rfl⟩
theorem fnk60 : ∃ fn : Func, Tryz.prog.funcs[60]? = some fn ∧ fn.body = some body60 ∧ fn.ntmps = Tryz.f60.ntmps ∧ fn.results.toList = Tryz.f60.results.toList ∧ env.fn 60 = true := ⟨Tryz.f60, Tryz.func60, has60, rfl, rfl, by kernel_rfl⟩
theorem fnk61 : ∃ fn : Func, Tryz.prog.funcs[61]? = some fn ∧ fn.body = some body61 ∧ fn.ntmps = Tryz.f61.ntmps ∧ fn.results.toList = Tryz.f61.results.toList ∧ env.fn 61 = true := ⟨Tryz.f61, Tryz.func61, has61, rfl, rfl, by kernel_rfl⟩
theorem fnk62 : ∃ fn : Func, Tryz.prog.funcs[62]? = some fn ∧ fn.body = some body62 ∧ fn.ntmps = Tryz.f62.ntmps ∧ fn.results.toList = Tryz.f62.results.toList ∧ env.fn 62 = true := ⟨Tryz.f62, Tryz.func62, has62, rfl, rfl, by kernel_rfl⟩
theorem fnk63 : ∃ fn : Func, Tryz.prog.funcs[63]? = some fn ∧ fn.body = some body63 ∧ fn.ntmps = Tryz.f63.ntmps ∧ fn.results.toList = Tryz.f63.results.toList ∧ env.fn 63 = true := ⟨Tryz.f63, Tryz.func63, has63, rfl, rfl, by kernel_rfl⟩
theorem fnk64 : ∃ fn : Func, Tryz.prog.funcs[64]? = some fn ∧ fn.body = some body64 ∧ fn.ntmps = Tryz.f64.ntmps ∧ fn.results.toList = Tryz.f64.results.toList ∧ env.fn 64 = true := ⟨Tryz.f64, Tryz.func64, has64, rfl, rfl, by kernel_rfl⟩
theorem fnk65 : ∃ fn : Func, Tryz.prog.funcs[65]? = some fn ∧ fn.body = some body65 ∧ fn.ntmps = Tryz.f65.ntmps ∧ fn.results.toList = Tryz.f65.results.toList ∧ env.fn 65 = true := ⟨Tryz.f65, Tryz.func65, has65, rfl, rfl, by kernel_rfl⟩
theorem fnk66 : ∃ fn : Func, Tryz.prog.funcs[66]? = some fn ∧ fn.body = some body66 ∧ fn.ntmps = Tryz.f66.ntmps ∧ fn.results.toList = Tryz.f66.results.toList ∧ env.fn 66 = true := ⟨Tryz.f66, Tryz.func66, has66, rfl, rfl, by kernel_rfl⟩
theorem fnk67 : ∃ fn : Func, Tryz.prog.funcs[67]? = some fn ∧ fn.body = some body67 ∧ fn.ntmps = Tryz.f67.ntmps ∧ fn.results.toList = Tryz.f67.results.toList ∧ env.fn 67 = true := ⟨Tryz.f67, Tryz.func67, has67, rfl, rfl, by kernel_rfl⟩
theorem fnk68 : ∃ fn : Func, Tryz.prog.funcs[68]? = some fn ∧ fn.body = some body68 ∧ fn.ntmps = Tryz.f68.ntmps ∧ fn.results.toList = Tryz.f68.results.toList ∧ env.fn 68 = true := ⟨Tryz.f68, Tryz.func68, has68, rfl, rfl, by kernel_rfl⟩
theorem fnk69 : ∃ fn : Func, Tryz.prog.funcs[69]? = some fn ∧ fn.body = some body69 ∧ fn.ntmps = Tryz.f69.ntmps ∧ fn.results.toList = Tryz.f69.results.toList ∧ env.fn 69 = true := ⟨Tryz.f69, Tryz.func69, has69, rfl, rfl, by kernel_rfl⟩
theorem fnk70 : ∃ fn : Func, Tryz.prog.funcs[70]? = some fn ∧ fn.body = some body70 ∧ fn.ntmps = Tryz.f70.ntmps ∧ fn.results.toList = Tryz.f70.results.toList ∧ env.fn 70 = true := ⟨Tryz.f70, Tryz.func70, has70, rfl, rfl, by kernel_rfl⟩
theorem fnk71 : ∃ fn : Func, Tryz.prog.funcs[71]? = some fn ∧ fn.body = some body71 ∧ fn.ntmps = Tryz.f71.ntmps ∧ fn.results.toList = Tryz.f71.results.toList ∧ env.fn 71 = true := ⟨Tryz.f71, Tryz.func71, has71, rfl, rfl, by kernel_rfl⟩
theorem fnk72 : ∃ fn : Func, Tryz.prog.funcs[72]? = some fn ∧ fn.body = some body72 ∧ fn.ntmps = Tryz.f72.ntmps ∧ fn.results.toList = Tryz.f72.results.toList ∧ env.fn 72 = true := ⟨Tryz.f72, Tryz.func72, has72, rfl, rfl, by kernel_rfl⟩
theorem fnk73 : ∃ fn : Func, Tryz.prog.funcs[73]? = some fn ∧ fn.body = some body73 ∧ fn.ntmps = Tryz.f73.ntmps ∧ fn.results.toList = Tryz.f73.results.toList ∧ env.fn 73 = true := ⟨Tryz.f73, Tryz.func73, has73, rfl, rfl, by kernel_rfl⟩
theorem fnk74 : ∃ fn : Func, Tryz.prog.funcs[74]? = some fn ∧ fn.body = some body74 ∧ fn.ntmps = Tryz.f74.ntmps ∧ fn.results.toList = Tryz.f74.results.toList ∧ env.fn 74 = true := ⟨Tryz.f74, Tryz.func74, has74, rfl, rfl, by kernel_rfl⟩
theorem fnk75 : ∃ fn : Func, Tryz.prog.funcs[75]? = some fn ∧ fn.body = some body75 ∧ fn.ntmps = Tryz.f75.ntmps ∧ fn.results.toList = Tryz.f75.results.toList ∧ env.fn 75 = true := ⟨Tryz.f75, Tryz.func75, has75, rfl, rfl, by kernel_rfl⟩
theorem fnk76 : ∃ fn : Func, Tryz.prog.funcs[76]? = some fn ∧ fn.body = some body76 ∧ fn.ntmps = Tryz.f76.ntmps ∧ fn.results.toList = Tryz.f76.results.toList ∧ env.fn 76 = true := ⟨Tryz.f76, Tryz.func76, has76, rfl, rfl, by kernel_rfl⟩
theorem fnk77 : ∃ fn : Func, Tryz.prog.funcs[77]? = some fn ∧ fn.body = some body77 ∧ fn.ntmps = Tryz.f77.ntmps ∧ fn.results.toList = Tryz.f77.results.toList ∧ env.fn 77 = true := ⟨Tryz.f77, Tryz.func77, has77, rfl, rfl, by kernel_rfl⟩
theorem fnk78 : ∃ fn : Func, Tryz.prog.funcs[78]? = some fn ∧ fn.body = some body78 ∧ fn.ntmps = Tryz.f78.ntmps ∧ fn.results.toList = Tryz.f78.results.toList ∧ env.fn 78 = true := ⟨Tryz.f78, Tryz.func78, has78, rfl, rfl, by kernel_rfl⟩
theorem fnk79 : ∃ fn : Func, Tryz.prog.funcs[79]? = some fn ∧ fn.body = some body79 ∧ fn.ntmps = Tryz.f79.ntmps ∧ fn.results.toList = Tryz.f79.results.toList ∧ env.fn 79 = true := ⟨Tryz.f79, Tryz.func79, has79, rfl, rfl, by kernel_rfl⟩
theorem fnk80 : ∃ fn : Func, Tryz.prog.funcs[80]? = some fn ∧ fn.body = some body80 ∧ fn.ntmps = Tryz.f80.ntmps ∧ fn.results.toList = Tryz.f80.results.toList ∧ env.fn 80 = true := ⟨Tryz.f80, Tryz.func80, has80, rfl, rfl, by kernel_rfl⟩
theorem fnk81 : ∃ fn : Func, Tryz.prog.funcs[81]? = some fn ∧ fn.body = some body81 ∧ fn.ntmps = Tryz.f81.ntmps ∧ fn.results.toList = Tryz.f81.results.toList ∧ env.fn 81 = true := ⟨Tryz.f81, Tryz.func81, has81, rfl, rfl, by kernel_rfl⟩
theorem fnk82 : ∃ fn : Func, Tryz.prog.funcs[82]? = some fn ∧ fn.body = some body82 ∧ fn.ntmps = Tryz.f82.ntmps ∧ fn.results.toList = Tryz.f82.results.toList ∧ env.fn 82 = true := ⟨Tryz.f82, Tryz.func82, has82, rfl, rfl, by kernel_rfl⟩
theorem fnk83 : ∃ fn : Func, Tryz.prog.funcs[83]? = some fn ∧ fn.body = some body83 ∧ fn.ntmps = Tryz.f83.ntmps ∧ fn.results.toList = Tryz.f83.results.toList ∧ env.fn 83 = true := ⟨Tryz.f83, Tryz.func83, has83, rfl, rfl, by kernel_rfl⟩
theorem fnk84 : ∃ fn : Func, Tryz.prog.funcs[84]? = some fn ∧ fn.body = some body84 ∧ fn.ntmps = Tryz.f84.ntmps ∧ fn.results.toList = Tryz.f84.results.toList ∧ env.fn 84 = true := ⟨Tryz.f84, Tryz.func84, has84, rfl, rfl, by kernel_rfl⟩
theorem fnk85 : ∃ fn : Func, Tryz.prog.funcs[85]? = some fn ∧ fn.body = some body85 ∧ fn.ntmps = Tryz.f85.ntmps ∧ fn.results.toList = Tryz.f85.results.toList ∧ env.fn 85 = true := ⟨Tryz.f85, Tryz.func85, has85, rfl, rfl, by kernel_rfl⟩
theorem fnk86 : ∃ fn : Func, Tryz.prog.funcs[86]? = some fn ∧ fn.body = some body86 ∧ fn.ntmps = Tryz.f86.ntmps ∧ fn.results.toList = Tryz.f86.results.toList ∧ env.fn 86 = true := ⟨Tryz.f86, Tryz.func86, has86, rfl, rfl, by kernel_rfl⟩
theorem fnk87 : ∃ fn : Func, Tryz.prog.funcs[87]? = some fn ∧ fn.body = some body87 ∧ fn.ntmps = Tryz.f87.ntmps ∧ fn.results.toList = Tryz.f87.results.toList ∧ env.fn 87 = true := ⟨Tryz.f87, Tryz.func87, has87, rfl, rfl, by kernel_rfl⟩
theorem fnk88 : ∃ fn : Func, Tryz.prog.funcs[88]? = some fn ∧ fn.body = some body88 ∧ fn.ntmps = Tryz.f88.ntmps ∧ fn.results.toList = Tryz.f88.results.toList ∧ env.fn 88 = true := ⟨Tryz.f88, Tryz.func88, has88, rfl, rfl, by kernel_rfl⟩
theorem fnk89 : ∃ fn : Func, Tryz.prog.funcs[89]? = some fn ∧ fn.body = some body89 ∧ fn.ntmps = Tryz.f89.ntmps ∧ fn.results.toList = Tryz.f89.results.toList ∧ env.fn 89 = true := ⟨Tryz.f89, Tryz.func89, has89, rfl, rfl, by kernel_rfl⟩
theorem fnk90 : ∃ fn : Func, Tryz.prog.funcs[90]? = some fn ∧ fn.body = some body90 ∧ fn.ntmps = Tryz.f90.ntmps ∧ fn.results.toList = Tryz.f90.results.toList ∧ env.fn 90 = true := ⟨Tryz.f90, Tryz.func90, has90, rfl, rfl, by kernel_rfl⟩
theorem fnk91 : ∃ fn : Func, Tryz.prog.funcs[91]? = some fn ∧ fn.body = some body91 ∧ fn.ntmps = Tryz.f91.ntmps ∧ fn.results.toList = Tryz.f91.results.toList ∧ env.fn 91 = true := ⟨Tryz.f91, Tryz.func91, has91, rfl, rfl, by kernel_rfl⟩
theorem fnk92 : ∃ fn : Func, Tryz.prog.funcs[92]? = some fn ∧ fn.body = some body92 ∧ fn.ntmps = Tryz.f92.ntmps ∧ fn.results.toList = Tryz.f92.results.toList ∧ env.fn 92 = true := ⟨Tryz.f92, Tryz.func92, has92, rfl, rfl, by kernel_rfl⟩
theorem fnk93 : ∃ fn : Func, Tryz.prog.funcs[93]? = some fn ∧ fn.body = some body93 ∧ fn.ntmps = Tryz.f93.ntmps ∧ fn.results.toList = Tryz.f93.results.toList ∧ env.fn 93 = true := ⟨Tryz.f93, Tryz.func93, has93, rfl, rfl, by kernel_rfl⟩
theorem fnk94 : ∃ fn : Func, Tryz.prog.funcs[94]? = some fn ∧ fn.body = some body94 ∧ fn.ntmps = Tryz.f94.ntmps ∧ fn.results.toList = Tryz.f94.results.toList ∧ env.fn 94 = true := ⟨Tryz.f94, Tryz.func94, has94, rfl, rfl, by kernel_rfl⟩
theorem fnk95 : ∃ fn : Func, Tryz.prog.funcs[95]? = some fn ∧ fn.body = some body95 ∧ fn.ntmps = Tryz.f95.ntmps ∧ fn.results.toList = Tryz.f95.results.toList ∧ env.fn 95 = true := ⟨Tryz.f95, Tryz.func95, has95, rfl, rfl, by kernel_rfl⟩
theorem fnk96 : ∃ fn : Func, Tryz.prog.funcs[96]? = some fn ∧ fn.body = some body96 ∧ fn.ntmps = Tryz.f96.ntmps ∧ fn.results.toList = Tryz.f96.results.toList ∧ env.fn 96 = true := ⟨Tryz.f96, Tryz.func96, has96, rfl, rfl, by kernel_rfl⟩
theorem fnk97 : ∃ fn : Func, Tryz.prog.funcs[97]? = some fn ∧ fn.body = some body97 ∧ fn.ntmps = Tryz.f97.ntmps ∧ fn.results.toList = Tryz.f97.results.toList ∧ env.fn 97 = true := ⟨Tryz.f97, Tryz.func97, has97, rfl, rfl, by kernel_rfl⟩
theorem fnk98 : ∃ fn : Func, Tryz.prog.funcs[98]? = some fn ∧ fn.body = some body98 ∧ fn.ntmps = Tryz.f98.ntmps ∧ fn.results.toList = Tryz.f98.results.toList ∧ env.fn 98 = true := ⟨Tryz.f98, Tryz.func98, has98, rfl, rfl, by kernel_rfl⟩
theorem fnk99 : ∃ fn : Func, Tryz.prog.funcs[99]? = some fn ∧ fn.body = some body99 ∧ fn.ntmps = Tryz.f99.ntmps ∧ fn.results.toList = Tryz.f99.results.toList ∧ env.fn 99 = true := ⟨Tryz.f99, Tryz.func99, has99, rfl, rfl, by kernel_rfl⟩
theorem fnk100 : ∃ fn : Func, Tryz.prog.funcs[100]? = some fn ∧ fn.body = some body100 ∧ fn.ntmps = Tryz.f100.ntmps ∧ fn.results.toList = Tryz.f100.results.toList ∧ env.fn 100 = true := ⟨Tryz.f100, Tryz.func100, has100, rfl, rfl, by kernel_rfl⟩
theorem fnk101 : ∃ fn : Func, Tryz.prog.funcs[101]? = some fn ∧ fn.body = some body101 ∧ fn.ntmps = Tryz.f101.ntmps ∧ fn.results.toList = Tryz.f101.results.toList ∧ env.fn 101 = true := ⟨Tryz.f101, Tryz.func101, has101, rfl, rfl, by kernel_rfl⟩
theorem fnk102 : ∃ fn : Func, Tryz.prog.funcs[102]? = some fn ∧ fn.body = some body102 ∧ fn.ntmps = Tryz.f102.ntmps ∧ fn.results.toList = Tryz.f102.results.toList ∧ env.fn 102 = true := ⟨Tryz.f102, Tryz.func102, has102, rfl, rfl, by kernel_rfl⟩
theorem fnk103 : ∃ fn : Func, Tryz.prog.funcs[103]? = some fn ∧ fn.body = some body103 ∧ fn.ntmps = Tryz.f103.ntmps ∧ fn.results.toList = Tryz.f103.results.toList ∧ env.fn 103 = true := ⟨Tryz.f103, Tryz.func103, has103, rfl, rfl, by kernel_rfl⟩
theorem fnk104 : ∃ fn : Func, Tryz.prog.funcs[104]? = some fn ∧ fn.body = some body104 ∧ fn.ntmps = Tryz.f104.ntmps ∧ fn.results.toList = Tryz.f104.results.toList ∧ env.fn 104 = true := ⟨Tryz.f104, Tryz.func104, has104, rfl, rfl, by kernel_rfl⟩
theorem fnk105 : ∃ fn : Func, Tryz.prog.funcs[105]? = some fn ∧ fn.body = some body105 ∧ fn.ntmps = Tryz.f105.ntmps ∧ fn.results.toList = Tryz.f105.results.toList ∧ env.fn 105 = true := ⟨Tryz.f105, Tryz.func105, has105, rfl, rfl, by kernel_rfl⟩
theorem fnk106 : ∃ fn : Func, Tryz.prog.funcs[106]? = some fn ∧ fn.body = some body106 ∧ fn.ntmps = Tryz.f106.ntmps ∧ fn.results.toList = Tryz.f106.results.toList ∧ env.fn 106 = true := ⟨Tryz.f106, Tryz.func106, has106, rfl, rfl, by kernel_rfl⟩
theorem fnk107 : ∃ fn : Func, Tryz.prog.funcs[107]? = some fn ∧ fn.body = some body107 ∧ fn.ntmps = Tryz.f107.ntmps ∧ fn.results.toList = Tryz.f107.results.toList ∧ env.fn 107 = true := ⟨Tryz.f107, Tryz.func107, has107, rfl, rfl, by kernel_rfl⟩
theorem fnk108 : ∃ fn : Func, Tryz.prog.funcs[108]? = some fn ∧ fn.body = some body108 ∧ fn.ntmps = Tryz.f108.ntmps ∧ fn.results.toList = Tryz.f108.results.toList ∧ env.fn 108 = true := ⟨Tryz.f108, Tryz.func108, has108, rfl, rfl, by kernel_rfl⟩
theorem fnk109 : ∃ fn : Func, Tryz.prog.funcs[109]? = some fn ∧ fn.body = some body109 ∧ fn.ntmps = Tryz.f109.ntmps ∧ fn.results.toList = Tryz.f109.results.toList ∧ env.fn 109 = true := ⟨Tryz.f109, Tryz.func109, has109, rfl, rfl, by kernel_rfl⟩
theorem fnk110 : ∃ fn : Func, Tryz.prog.funcs[110]? = some fn ∧ fn.body = some body110 ∧ fn.ntmps = Tryz.f110.ntmps ∧ fn.results.toList = Tryz.f110.results.toList ∧ env.fn 110 = true := ⟨Tryz.f110, Tryz.func110, has110, rfl, rfl, by kernel_rfl⟩
theorem fnk111 : ∃ fn : Func, Tryz.prog.funcs[111]? = some fn ∧ fn.body = some body111 ∧ fn.ntmps = Tryz.f111.ntmps ∧ fn.results.toList = Tryz.f111.results.toList ∧ env.fn 111 = true := ⟨Tryz.f111, Tryz.func111, has111, rfl, rfl, by kernel_rfl⟩
theorem fnk112 : ∃ fn : Func, Tryz.prog.funcs[112]? = some fn ∧ fn.body = some body112 ∧ fn.ntmps = Tryz.f112.ntmps ∧ fn.results.toList = Tryz.f112.results.toList ∧ env.fn 112 = true := ⟨Tryz.f112, Tryz.func112, has112, rfl, rfl, by kernel_rfl⟩
theorem fnk113 : ∃ fn : Func, Tryz.prog.funcs[113]? = some fn ∧ fn.body = some body113 ∧ fn.ntmps = Tryz.f113.ntmps ∧ fn.results.toList = Tryz.f113.results.toList ∧ env.fn 113 = true := ⟨Tryz.f113, Tryz.func113, has113, rfl, rfl, by kernel_rfl⟩
theorem fnk114 : ∃ fn : Func, Tryz.prog.funcs[114]? = some fn ∧ fn.body = some body114 ∧ fn.ntmps = Tryz.f114.ntmps ∧ fn.results.toList = Tryz.f114.results.toList ∧ env.fn 114 = true := ⟨Tryz.f114, Tryz.func114, has114, rfl, rfl, by kernel_rfl⟩
theorem fnk115 : ∃ fn : Func, Tryz.prog.funcs[115]? = some fn ∧ fn.body = some body115 ∧ fn.ntmps = Tryz.f115.ntmps ∧ fn.results.toList = Tryz.f115.results.toList ∧ env.fn 115 = true := ⟨Tryz.f115, Tryz.func115, has115, rfl, rfl, by kernel_rfl⟩
theorem fnk116 : ∃ fn : Func, Tryz.prog.funcs[116]? = some fn ∧ fn.body = some body116 ∧ fn.ntmps = Tryz.f116.ntmps ∧ fn.results.toList = Tryz.f116.results.toList ∧ env.fn 116 = true := ⟨Tryz.f116, Tryz.func116, has116, rfl, rfl, by kernel_rfl⟩
theorem fnk117 : ∃ fn : Func, Tryz.prog.funcs[117]? = some fn ∧ fn.body = some body117 ∧ fn.ntmps = Tryz.f117.ntmps ∧ fn.results.toList = Tryz.f117.results.toList ∧ env.fn 117 = true := ⟨Tryz.f117, Tryz.func117, has117, rfl, rfl, by kernel_rfl⟩
theorem fnk118 : ∃ fn : Func, Tryz.prog.funcs[118]? = some fn ∧ fn.body = some body118 ∧ fn.ntmps = Tryz.f118.ntmps ∧ fn.results.toList = Tryz.f118.results.toList ∧ env.fn 118 = true := ⟨Tryz.f118, Tryz.func118, has118, rfl, rfl, by kernel_rfl⟩
theorem fnk119 : ∃ fn : Func, Tryz.prog.funcs[119]? = some fn ∧ fn.body = some body119 ∧ fn.ntmps = Tryz.f119.ntmps ∧ fn.results.toList = Tryz.f119.results.toList ∧ env.fn 119 = true := ⟨Tryz.f119, Tryz.func119, has119, rfl, rfl, by kernel_rfl⟩
theorem fnk120 : ∃ fn : Func, Tryz.prog.funcs[120]? = some fn ∧ fn.body = some body120 ∧ fn.ntmps = Tryz.f120.ntmps ∧ fn.results.toList = Tryz.f120.results.toList ∧ env.fn 120 = true := ⟨Tryz.f120, Tryz.func120, has120, rfl, rfl, by kernel_rfl⟩
theorem fnk121 : ∃ fn : Func, Tryz.prog.funcs[121]? = some fn ∧ fn.body = some body121 ∧ fn.ntmps = Tryz.f121.ntmps ∧ fn.results.toList = Tryz.f121.results.toList ∧ env.fn 121 = true := ⟨Tryz.f121, Tryz.func121, has121, rfl, rfl, by kernel_rfl⟩
theorem fnk122 : ∃ fn : Func, Tryz.prog.funcs[122]? = some fn ∧ fn.body = some body122 ∧ fn.ntmps = Tryz.f122.ntmps ∧ fn.results.toList = Tryz.f122.results.toList ∧ env.fn 122 = true := ⟨Tryz.f122, Tryz.func122, has122, rfl, rfl, by kernel_rfl⟩
theorem fnk123 : ∃ fn : Func, Tryz.prog.funcs[123]? = some fn ∧ fn.body = some body123 ∧ fn.ntmps = Tryz.f123.ntmps ∧ fn.results.toList = Tryz.f123.results.toList ∧ env.fn 123 = true := ⟨Tryz.f123, Tryz.func123, has123, rfl, rfl, by kernel_rfl⟩
theorem fnk124 : ∃ fn : Func, Tryz.prog.funcs[124]? = some fn ∧ fn.body = some body124 ∧ fn.ntmps = Tryz.f124.ntmps ∧ fn.results.toList = Tryz.f124.results.toList ∧ env.fn 124 = true := ⟨Tryz.f124, Tryz.func124, has124, rfl, rfl, by kernel_rfl⟩
theorem fnk125 : ∃ fn : Func, Tryz.prog.funcs[125]? = some fn ∧ fn.body = some body125 ∧ fn.ntmps = Tryz.f125.ntmps ∧ fn.results.toList = Tryz.f125.results.toList ∧ env.fn 125 = true := ⟨Tryz.f125, Tryz.func125, has125, rfl, rfl, by kernel_rfl⟩
theorem fnk126 : ∃ fn : Func, Tryz.prog.funcs[126]? = some fn ∧ fn.body = some body126 ∧ fn.ntmps = Tryz.f126.ntmps ∧ fn.results.toList = Tryz.f126.results.toList ∧ env.fn 126 = true := ⟨Tryz.f126, Tryz.func126, has126, rfl, rfl, by kernel_rfl⟩
theorem fnk127 : ∃ fn : Func, Tryz.prog.funcs[127]? = some fn ∧ fn.body = some body127 ∧ fn.ntmps = Tryz.f127.ntmps ∧ fn.results.toList = Tryz.f127.results.toList ∧ env.fn 127 = true := ⟨Tryz.f127, Tryz.func127, has127, rfl, rfl, by kernel_rfl⟩
theorem fnk128 : ∃ fn : Func, Tryz.prog.funcs[128]? = some fn ∧ fn.body = some body128 ∧ fn.ntmps = Tryz.f128.ntmps ∧ fn.results.toList = Tryz.f128.results.toList ∧ env.fn 128 = true := ⟨Tryz.f128, Tryz.func128, has128, rfl, rfl, by kernel_rfl⟩
theorem fnk129 : ∃ fn : Func, Tryz.prog.funcs[129]? = some fn ∧ fn.body = some body129 ∧ fn.ntmps = Tryz.f129.ntmps ∧ fn.results.toList = Tryz.f129.results.toList ∧ env.fn 129 = true := ⟨Tryz.f129, Tryz.func129, has129, rfl, rfl, by kernel_rfl⟩
theorem fnk130 : ∃ fn : Func, Tryz.prog.funcs[130]? = some fn ∧ fn.body = some body130 ∧ fn.ntmps = Tryz.f130.ntmps ∧ fn.results.toList = Tryz.f130.results.toList ∧ env.fn 130 = true := ⟨Tryz.f130, Tryz.func130, has130, rfl, rfl, by kernel_rfl⟩
theorem fnk131 : ∃ fn : Func, Tryz.prog.funcs[131]? = some fn ∧ fn.body = some body131 ∧ fn.ntmps = Tryz.f131.ntmps ∧ fn.results.toList = Tryz.f131.results.toList ∧ env.fn 131 = true := ⟨Tryz.f131, Tryz.func131, has131, rfl, rfl, by kernel_rfl⟩
theorem fnk132 : ∃ fn : Func, Tryz.prog.funcs[132]? = some fn ∧ fn.body = some body132 ∧ fn.ntmps = Tryz.f132.ntmps ∧ fn.results.toList = Tryz.f132.results.toList ∧ env.fn 132 = true := ⟨Tryz.f132, Tryz.func132, has132, rfl, rfl, by kernel_rfl⟩
theorem fnk133 : ∃ fn : Func, Tryz.prog.funcs[133]? = some fn ∧ fn.body = some body133 ∧ fn.ntmps = Tryz.f133.ntmps ∧ fn.results.toList = Tryz.f133.results.toList ∧ env.fn 133 = true := ⟨Tryz.f133, Tryz.func133, has133, rfl, rfl, by kernel_rfl⟩
theorem fnk134 : ∃ fn : Func, Tryz.prog.funcs[134]? = some fn ∧ fn.body = some body134 ∧ fn.ntmps = Tryz.f134.ntmps ∧ fn.results.toList = Tryz.f134.results.toList ∧ env.fn 134 = true := ⟨Tryz.f134, Tryz.func134, has134, rfl, rfl, by kernel_rfl⟩
theorem fnk135 : ∃ fn : Func, Tryz.prog.funcs[135]? = some fn ∧ fn.body = some body135 ∧ fn.ntmps = Tryz.f135.ntmps ∧ fn.results.toList = Tryz.f135.results.toList ∧ env.fn 135 = true := ⟨Tryz.f135, Tryz.func135, has135, rfl, rfl, by kernel_rfl⟩
theorem fnk136 : ∃ fn : Func, Tryz.prog.funcs[136]? = some fn ∧ fn.body = some body136 ∧ fn.ntmps = Tryz.f136.ntmps ∧ fn.results.toList = Tryz.f136.results.toList ∧ env.fn 136 = true := ⟨Tryz.f136, Tryz.func136, has136, rfl, rfl, by kernel_rfl⟩
theorem fnk137 : ∃ fn : Func, Tryz.prog.funcs[137]? = some fn ∧ fn.body = some body137 ∧ fn.ntmps = Tryz.f137.ntmps ∧ fn.results.toList = Tryz.f137.results.toList ∧ env.fn 137 = true := ⟨Tryz.f137, Tryz.func137, has137, rfl, rfl, by kernel_rfl⟩
theorem fnk138 : ∃ fn : Func, Tryz.prog.funcs[138]? = some fn ∧ fn.body = some body138 ∧ fn.ntmps = Tryz.f138.ntmps ∧ fn.results.toList = Tryz.f138.results.toList ∧ env.fn 138 = true := ⟨Tryz.f138, Tryz.func138, has138, rfl, rfl, by kernel_rfl⟩
theorem fnk139 : ∃ fn : Func, Tryz.prog.funcs[139]? = some fn ∧ fn.body = some body139 ∧ fn.ntmps = Tryz.f139.ntmps ∧ fn.results.toList = Tryz.f139.results.toList ∧ env.fn 139 = true := ⟨Tryz.f139, Tryz.func139, has139, rfl, rfl, by kernel_rfl⟩
theorem fnk140 : ∃ fn : Func, Tryz.prog.funcs[140]? = some fn ∧ fn.body = some body140 ∧ fn.ntmps = Tryz.f140.ntmps ∧ fn.results.toList = Tryz.f140.results.toList ∧ env.fn 140 = true := ⟨Tryz.f140, Tryz.func140, has140, rfl, rfl, by kernel_rfl⟩
theorem fnk141 : ∃ fn : Func, Tryz.prog.funcs[141]? = some fn ∧ fn.body = some body141 ∧ fn.ntmps = Tryz.f141.ntmps ∧ fn.results.toList = Tryz.f141.results.toList ∧ env.fn 141 = true := ⟨Tryz.f141, Tryz.func141, has141, rfl, rfl, by kernel_rfl⟩
theorem fnk142 : ∃ fn : Func, Tryz.prog.funcs[142]? = some fn ∧ fn.body = some body142 ∧ fn.ntmps = Tryz.f142.ntmps ∧ fn.results.toList = Tryz.f142.results.toList ∧ env.fn 142 = true := ⟨Tryz.f142, Tryz.func142, has142, rfl, rfl, by kernel_rfl⟩
theorem fnk143 : ∃ fn : Func, Tryz.prog.funcs[143]? = some fn ∧ fn.body = some body143 ∧ fn.ntmps = Tryz.f143.ntmps ∧ fn.results.toList = Tryz.f143.results.toList ∧ env.fn 143 = true := ⟨Tryz.f143, Tryz.func143, has143, rfl, rfl, by kernel_rfl⟩
theorem fnk144 : ∃ fn : Func, Tryz.prog.funcs[144]? = some fn ∧ fn.body = some body144 ∧ fn.ntmps = Tryz.f144.ntmps ∧ fn.results.toList = Tryz.f144.results.toList ∧ env.fn 144 = true := ⟨Tryz.f144, Tryz.func144, has144, rfl, rfl, by kernel_rfl⟩
theorem fnk145 : ∃ fn : Func, Tryz.prog.funcs[145]? = some fn ∧ fn.body = some body145 ∧ fn.ntmps = Tryz.f145.ntmps ∧ fn.results.toList = Tryz.f145.results.toList ∧ env.fn 145 = true := ⟨Tryz.f145, Tryz.func145, has145, rfl, rfl, by kernel_rfl⟩
theorem fnk146 : ∃ fn : Func, Tryz.prog.funcs[146]? = some fn ∧ fn.body = some body146 ∧ fn.ntmps = Tryz.f146.ntmps ∧ fn.results.toList = Tryz.f146.results.toList ∧ env.fn 146 = true := ⟨Tryz.f146, Tryz.func146, has146, rfl, rfl, by kernel_rfl⟩
theorem fnk147 : ∃ fn : Func, Tryz.prog.funcs[147]? = some fn ∧ fn.body = some body147 ∧ fn.ntmps = Tryz.f147.ntmps ∧ fn.results.toList = Tryz.f147.results.toList ∧ env.fn 147 = true := ⟨Tryz.f147, Tryz.func147, has147, rfl, rfl, by kernel_rfl⟩
theorem fnk148 : ∃ fn : Func, Tryz.prog.funcs[148]? = some fn ∧ fn.body = some body148 ∧ fn.ntmps = Tryz.f148.ntmps ∧ fn.results.toList = Tryz.f148.results.toList ∧ env.fn 148 = true := ⟨Tryz.f148, Tryz.func148, has148, rfl, rfl, by kernel_rfl⟩
theorem fnk149 : ∃ fn : Func, Tryz.prog.funcs[149]? = some fn ∧ fn.body = some body149 ∧ fn.ntmps = Tryz.f149.ntmps ∧ fn.results.toList = Tryz.f149.results.toList ∧ env.fn 149 = true := ⟨Tryz.f149, Tryz.func149, has149, rfl, rfl, by kernel_rfl⟩
theorem fnk150 : ∃ fn : Func, Tryz.prog.funcs[150]? = some fn ∧ fn.body = some body150 ∧ fn.ntmps = Tryz.f150.ntmps ∧ fn.results.toList = Tryz.f150.results.toList ∧ env.fn 150 = true := ⟨Tryz.f150, Tryz.func150, has150, rfl, rfl, by kernel_rfl⟩
theorem fnk151 : ∃ fn : Func, Tryz.prog.funcs[151]? = some fn ∧ fn.body = some body151 ∧ fn.ntmps = Tryz.f151.ntmps ∧ fn.results.toList = Tryz.f151.results.toList ∧ env.fn 151 = true := ⟨Tryz.f151, Tryz.func151, has151, rfl, rfl, by kernel_rfl⟩
theorem fnk152 : ∃ fn : Func, Tryz.prog.funcs[152]? = some fn ∧ fn.body = some body152 ∧ fn.ntmps = Tryz.f152.ntmps ∧ fn.results.toList = Tryz.f152.results.toList ∧ env.fn 152 = true := ⟨Tryz.f152, Tryz.func152, has152, rfl, rfl, by kernel_rfl⟩
theorem fnk153 : ∃ fn : Func, Tryz.prog.funcs[153]? = some fn ∧ fn.body = some body153 ∧ fn.ntmps = Tryz.f153.ntmps ∧ fn.results.toList = Tryz.f153.results.toList ∧ env.fn 153 = true := ⟨Tryz.f153, Tryz.func153, has153, rfl, rfl, by kernel_rfl⟩
theorem fnk154 : ∃ fn : Func, Tryz.prog.funcs[154]? = some fn ∧ fn.body = some body154 ∧ fn.ntmps = Tryz.f154.ntmps ∧ fn.results.toList = Tryz.f154.results.toList ∧ env.fn 154 = true := ⟨Tryz.f154, Tryz.func154, has154, rfl, rfl, by kernel_rfl⟩
theorem fnk155 : ∃ fn : Func, Tryz.prog.funcs[155]? = some fn ∧ fn.body = some body155 ∧ fn.ntmps = Tryz.f155.ntmps ∧ fn.results.toList = Tryz.f155.results.toList ∧ env.fn 155 = true := ⟨Tryz.f155, Tryz.func155, has155, rfl, rfl, by kernel_rfl⟩
theorem fnk156 : ∃ fn : Func, Tryz.prog.funcs[156]? = some fn ∧ fn.body = some body156 ∧ fn.ntmps = Tryz.f156.ntmps ∧ fn.results.toList = Tryz.f156.results.toList ∧ env.fn 156 = true := ⟨Tryz.f156, Tryz.func156, has156, rfl, rfl, by kernel_rfl⟩
theorem fnk157 : ∃ fn : Func, Tryz.prog.funcs[157]? = some fn ∧ fn.body = some body157 ∧ fn.ntmps = Tryz.f157.ntmps ∧ fn.results.toList = Tryz.f157.results.toList ∧ env.fn 157 = true := ⟨Tryz.f157, Tryz.func157, has157, rfl, rfl, by kernel_rfl⟩
theorem fnk158 : ∃ fn : Func, Tryz.prog.funcs[158]? = some fn ∧ fn.body = some body158 ∧ fn.ntmps = Tryz.f158.ntmps ∧ fn.results.toList = Tryz.f158.results.toList ∧ env.fn 158 = true := ⟨Tryz.f158, Tryz.func158, has158, rfl, rfl, by kernel_rfl⟩
theorem fnk159 : ∃ fn : Func, Tryz.prog.funcs[159]? = some fn ∧ fn.body = some body159 ∧ fn.ntmps = Tryz.f159.ntmps ∧ fn.results.toList = Tryz.f159.results.toList ∧ env.fn 159 = true := ⟨Tryz.f159, Tryz.func159, has159, rfl, rfl, by kernel_rfl⟩
theorem fnk160 : ∃ fn : Func, Tryz.prog.funcs[160]? = some fn ∧ fn.body = some body160 ∧ fn.ntmps = Tryz.f160.ntmps ∧ fn.results.toList = Tryz.f160.results.toList ∧ env.fn 160 = true := ⟨Tryz.f160, Tryz.func160, has160, rfl, rfl, by kernel_rfl⟩
theorem fnk161 : ∃ fn : Func, Tryz.prog.funcs[161]? = some fn ∧ fn.body = some body161 ∧ fn.ntmps = Tryz.f161.ntmps ∧ fn.results.toList = Tryz.f161.results.toList ∧ env.fn 161 = true := ⟨Tryz.f161, Tryz.func161, has161, rfl, rfl, by kernel_rfl⟩
theorem fnk162 : ∃ fn : Func, Tryz.prog.funcs[162]? = some fn ∧ fn.body = some body162 ∧ fn.ntmps = Tryz.f162.ntmps ∧ fn.results.toList = Tryz.f162.results.toList ∧ env.fn 162 = true := ⟨Tryz.f162, Tryz.func162, has162, rfl, rfl, by kernel_rfl⟩
theorem fnk163 : ∃ fn : Func, Tryz.prog.funcs[163]? = some fn ∧ fn.body = some body163 ∧ fn.ntmps = Tryz.f163.ntmps ∧ fn.results.toList = Tryz.f163.results.toList ∧ env.fn 163 = true := ⟨Tryz.f163, Tryz.func163, has163, rfl, rfl, by kernel_rfl⟩
theorem fnk164 : ∃ fn : Func, Tryz.prog.funcs[164]? = some fn ∧ fn.body = some body164 ∧ fn.ntmps = Tryz.f164.ntmps ∧ fn.results.toList = Tryz.f164.results.toList ∧ env.fn 164 = true := ⟨Tryz.f164, Tryz.func164, has164, rfl, rfl, by kernel_rfl⟩
theorem fnk165 : ∃ fn : Func, Tryz.prog.funcs[165]? = some fn ∧ fn.body = some body165 ∧ fn.ntmps = Tryz.f165.ntmps ∧ fn.results.toList = Tryz.f165.results.toList ∧ env.fn 165 = true := ⟨Tryz.f165, Tryz.func165, has165, rfl, rfl, by kernel_rfl⟩
theorem fnk166 : ∃ fn : Func, Tryz.prog.funcs[166]? = some fn ∧ fn.body = some body166 ∧ fn.ntmps = Tryz.f166.ntmps ∧ fn.results.toList = Tryz.f166.results.toList ∧ env.fn 166 = true := ⟨Tryz.f166, Tryz.func166, has166, rfl, rfl, by kernel_rfl⟩
theorem fnk167 : ∃ fn : Func, Tryz.prog.funcs[167]? = some fn ∧ fn.body = some body167 ∧ fn.ntmps = Tryz.f167.ntmps ∧ fn.results.toList = Tryz.f167.results.toList ∧ env.fn 167 = true := ⟨Tryz.f167, Tryz.func167, has167, rfl, rfl, by kernel_rfl⟩
theorem fnk168 : ∃ fn : Func, Tryz.prog.funcs[168]? = some fn ∧ fn.body = some body168 ∧ fn.ntmps = Tryz.f168.ntmps ∧ fn.results.toList = Tryz.f168.results.toList ∧ env.fn 168 = true := ⟨Tryz.f168, Tryz.func168, has168, rfl, rfl, by kernel_rfl⟩
theorem fnk169 : ∃ fn : Func, Tryz.prog.funcs[169]? = some fn ∧ fn.body = some body169 ∧ fn.ntmps = Tryz.f169.ntmps ∧ fn.results.toList = Tryz.f169.results.toList ∧ env.fn 169 = true := ⟨Tryz.f169, Tryz.func169, has169, rfl, rfl, by kernel_rfl⟩
theorem fnk170 : ∃ fn : Func, Tryz.prog.funcs[170]? = some fn ∧ fn.body = some body170 ∧ fn.ntmps = Tryz.f170.ntmps ∧ fn.results.toList = Tryz.f170.results.toList ∧ env.fn 170 = true := ⟨Tryz.f170, Tryz.func170, has170, rfl, rfl, by kernel_rfl⟩
theorem fnk171 : ∃ fn : Func, Tryz.prog.funcs[171]? = some fn ∧ fn.body = some body171 ∧ fn.ntmps = Tryz.f171.ntmps ∧ fn.results.toList = Tryz.f171.results.toList ∧ env.fn 171 = true := ⟨Tryz.f171, Tryz.func171, has171, rfl, rfl, by kernel_rfl⟩
theorem fnk172 : ∃ fn : Func, Tryz.prog.funcs[172]? = some fn ∧ fn.body = some body172 ∧ fn.ntmps = Tryz.f172.ntmps ∧ fn.results.toList = Tryz.f172.results.toList ∧ env.fn 172 = true := ⟨Tryz.f172, Tryz.func172, has172, rfl, rfl, by kernel_rfl⟩
theorem fnk173 : ∃ fn : Func, Tryz.prog.funcs[173]? = some fn ∧ fn.body = some body173 ∧ fn.ntmps = Tryz.f173.ntmps ∧ fn.results.toList = Tryz.f173.results.toList ∧ env.fn 173 = true := ⟨Tryz.f173, Tryz.func173, has173, rfl, rfl, by kernel_rfl⟩
noncomputable def fnl : List (Nat × FnI) := [(3, ⟨Tryz.f3.ntmps, body3, Tryz.f3.results.toList⟩), (4, ⟨Tryz.f4.ntmps, body4, Tryz.f4.results.toList⟩), (5, ⟨Tryz.f5.ntmps, body5, Tryz.f5.results.toList⟩), (6, ⟨Tryz.f6.ntmps, body6, Tryz.f6.results.toList⟩), (7, ⟨Tryz.f7.ntmps, body7, Tryz.f7.results.toList⟩), (8, ⟨Tryz.f8.ntmps, body8, Tryz.f8.results.toList⟩), (9, ⟨Tryz.f9.ntmps, body9, Tryz.f9.results.toList⟩), (10, ⟨Tryz.f10.ntmps, body10, Tryz.f10.results.toList⟩), (11, ⟨Tryz.f11.ntmps, body11, Tryz.f11.results.toList⟩), (12, ⟨Tryz.f12.ntmps, body12, Tryz.f12.results.toList⟩), (13, ⟨Tryz.f13.ntmps, body13, Tryz.f13.results.toList⟩), (14, ⟨Tryz.f14.ntmps, body14, Tryz.f14.results.toList⟩), (15, ⟨Tryz.f15.ntmps, body15, Tryz.f15.results.toList⟩), (16, ⟨Tryz.f16.ntmps, body16, Tryz.f16.results.toList⟩), (17, ⟨Tryz.f17.ntmps, body17, Tryz.f17.results.toList⟩), (18, ⟨Tryz.f18.ntmps, body18, Tryz.f18.results.toList⟩), (19, ⟨Tryz.f19.ntmps, body19, Tryz.f19.results.toList⟩), (20, ⟨Tryz.f20.ntmps, body20, Tryz.f20.results.toList⟩), (21, ⟨Tryz.f21.ntmps, body21, Tryz.f21.results.toList⟩), (22, ⟨Tryz.f22.ntmps, body22, Tryz.f22.results.toList⟩), (23, ⟨Tryz.f23.ntmps, body23, Tryz.f23.results.toList⟩), (24, ⟨Tryz.f24.ntmps, body24, Tryz.f24.results.toList⟩), (25, ⟨Tryz.f25.ntmps, body25, Tryz.f25.results.toList⟩), (26, ⟨Tryz.f26.ntmps, body26, Tryz.f26.results.toList⟩), (27, ⟨Tryz.f27.ntmps, body27, Tryz.f27.results.toList⟩), (28, ⟨Tryz.f28.ntmps, body28, Tryz.f28.results.toList⟩), (29, ⟨Tryz.f29.ntmps, body29, Tryz.f29.results.toList⟩), (30, ⟨Tryz.f30.ntmps, body30, Tryz.f30.results.toList⟩), (31, ⟨Tryz.f31.ntmps, body31, Tryz.f31.results.toList⟩), (32, ⟨Tryz.f32.ntmps, body32, Tryz.f32.results.toList⟩), (33, ⟨Tryz.f33.ntmps, body33, Tryz.f33.results.toList⟩), (34, ⟨Tryz.f34.ntmps, body34, Tryz.f34.results.toList⟩), (35, ⟨Tryz.f35.ntmps, body35, Tryz.f35.results.toList⟩), (36, ⟨Tryz.f36.ntmps, body36, Tryz.f36.results.toList⟩), (37, ⟨Tryz.f37.ntmps, body37, Tryz.f37.results.toList⟩), (38, ⟨Tryz.f38.ntmps, body38, Tryz.f38.results.toList⟩), (39, ⟨Tryz.f39.ntmps, body39, Tryz.f39.results.toList⟩), (40, ⟨Tryz.f40.ntmps, body40, Tryz.f40.results.toList⟩), (41, ⟨Tryz.f41.ntmps, body41, Tryz.f41.results.toList⟩), (42, ⟨Tryz.f42.ntmps, body42, Tryz.f42.results.toList⟩), (43, ⟨Tryz.f43.ntmps, body43, Tryz.f43.results.toList⟩), (44, ⟨Tryz.f44.ntmps, body44, Tryz.f44.results.toList⟩), (45, ⟨Tryz.f45.ntmps, body45, Tryz.f45.results.toList⟩), (46, ⟨Tryz.f46.ntmps, body46, Tryz.f46.results.toList⟩), (47, ⟨Tryz.f47.ntmps, body47, Tryz.f47.results.toList⟩), (48, ⟨Tryz.f48.ntmps, body48, Tryz.f48.results.toList⟩), (49, ⟨Tryz.f49.ntmps, body49, Tryz.f49.results.toList⟩), (50, ⟨Tryz.f50.ntmps, body50, Tryz.f50.results.toList⟩), (51, ⟨Tryz.f51.ntmps, body51, Tryz.f51.results.toList⟩), (52, ⟨Tryz.f52.ntmps, body52, Tryz.f52.results.toList⟩), (53, ⟨Tryz.f53.ntmps, body53, Tryz.f53.results.toList⟩), (54, ⟨Tryz.f54.ntmps, body54, Tryz.f54.results.toList⟩), (55, ⟨Tryz.f55.ntmps, body55, Tryz.f55.results.toList⟩), (56, ⟨Tryz.f56.ntmps, body56, Tryz.f56.results.toList⟩), (57, ⟨Tryz.f57.ntmps, body57, Tryz.f57.results.toList⟩), (58, ⟨Tryz.f58.ntmps, body58, Tryz.f58.results.toList⟩), (59, ⟨Tryz.f59.ntmps, body59, Tryz.f59.results.toList⟩), (60, ⟨Tryz.f60.ntmps, body60, Tryz.f60.results.toList⟩), (61, ⟨Tryz.f61.ntmps, body61, Tryz.f61.results.toList⟩), (62, ⟨Tryz.f62.ntmps, body62, Tryz.f62.results.toList⟩), (63, ⟨Tryz.f63.ntmps, body63, Tryz.f63.results.toList⟩), (64, ⟨Tryz.f64.ntmps, body64, Tryz.f64.results.toList⟩), (65, ⟨Tryz.f65.ntmps, body65, Tryz.f65.results.toList⟩), (66, ⟨Tryz.f66.ntmps, body66, Tryz.f66.results.toList⟩), (67, ⟨Tryz.f67.ntmps, body67, Tryz.f67.results.toList⟩), (68, ⟨Tryz.f68.ntmps, body68, Tryz.f68.results.toList⟩), (69, ⟨Tryz.f69.ntmps, body69, Tryz.f69.results.toList⟩), (70, ⟨Tryz.f70.ntmps, body70, Tryz.f70.results.toList⟩), (71, ⟨Tryz.f71.ntmps, body71, Tryz.f71.results.toList⟩), (72, ⟨Tryz.f72.ntmps, body72, Tryz.f72.results.toList⟩), (73, ⟨Tryz.f73.ntmps, body73, Tryz.f73.results.toList⟩), (74, ⟨Tryz.f74.ntmps, body74, Tryz.f74.results.toList⟩), (75, ⟨Tryz.f75.ntmps, body75, Tryz.f75.results.toList⟩), (76, ⟨Tryz.f76.ntmps, body76, Tryz.f76.results.toList⟩), (77, ⟨Tryz.f77.ntmps, body77, Tryz.f77.results.toList⟩), (78, ⟨Tryz.f78.ntmps, body78, Tryz.f78.results.toList⟩), (79, ⟨Tryz.f79.ntmps, body79, Tryz.f79.results.toList⟩), (80, ⟨Tryz.f80.ntmps, body80, Tryz.f80.results.toList⟩), (81, ⟨Tryz.f81.ntmps, body81, Tryz.f81.results.toList⟩), (82, ⟨Tryz.f82.ntmps, body82, Tryz.f82.results.toList⟩), (83, ⟨Tryz.f83.ntmps, body83, Tryz.f83.results.toList⟩), (84, ⟨Tryz.f84.ntmps, body84, Tryz.f84.results.toList⟩), (85, ⟨Tryz.f85.ntmps, body85, Tryz.f85.results.toList⟩), (86, ⟨Tryz.f86.ntmps, body86, Tryz.f86.results.toList⟩), (87, ⟨Tryz.f87.ntmps, body87, Tryz.f87.results.toList⟩), (88, ⟨Tryz.f88.ntmps, body88, Tryz.f88.results.toList⟩), (89, ⟨Tryz.f89.ntmps, body89, Tryz.f89.results.toList⟩), (90, ⟨Tryz.f90.ntmps, body90, Tryz.f90.results.toList⟩), (91, ⟨Tryz.f91.ntmps, body91, Tryz.f91.results.toList⟩), (92, ⟨Tryz.f92.ntmps, body92, Tryz.f92.results.toList⟩), (93, ⟨Tryz.f93.ntmps, body93, Tryz.f93.results.toList⟩), (94, ⟨Tryz.f94.ntmps, body94, Tryz.f94.results.toList⟩), (95, ⟨Tryz.f95.ntmps, body95, Tryz.f95.results.toList⟩), (96, ⟨Tryz.f96.ntmps, body96, Tryz.f96.results.toList⟩), (97, ⟨Tryz.f97.ntmps, body97, Tryz.f97.results.toList⟩), (98, ⟨Tryz.f98.ntmps, body98, Tryz.f98.results.toList⟩), (99, ⟨Tryz.f99.ntmps, body99, Tryz.f99.results.toList⟩), (100, ⟨Tryz.f100.ntmps, body100, Tryz.f100.results.toList⟩), (101, ⟨Tryz.f101.ntmps, body101, Tryz.f101.results.toList⟩), (102, ⟨Tryz.f102.ntmps, body102, Tryz.f102.results.toList⟩), (103, ⟨Tryz.f103.ntmps, body103, Tryz.f103.results.toList⟩), (104, ⟨Tryz.f104.ntmps, body104, Tryz.f104.results.toList⟩), (105, ⟨Tryz.f105.ntmps, body105, Tryz.f105.results.toList⟩), (106, ⟨Tryz.f106.ntmps, body106, Tryz.f106.results.toList⟩), (107, ⟨Tryz.f107.ntmps, body107, Tryz.f107.results.toList⟩), (108, ⟨Tryz.f108.ntmps, body108, Tryz.f108.results.toList⟩), (109, ⟨Tryz.f109.ntmps, body109, Tryz.f109.results.toList⟩), (110, ⟨Tryz.f110.ntmps, body110, Tryz.f110.results.toList⟩), (111, ⟨Tryz.f111.ntmps, body111, Tryz.f111.results.toList⟩), (112, ⟨Tryz.f112.ntmps, body112, Tryz.f112.results.toList⟩), (113, ⟨Tryz.f113.ntmps, body113, Tryz.f113.results.toList⟩), (114, ⟨Tryz.f114.ntmps, body114, Tryz.f114.results.toList⟩), (115, ⟨Tryz.f115.ntmps, body115, Tryz.f115.results.toList⟩), (116, ⟨Tryz.f116.ntmps, body116, Tryz.f116.results.toList⟩), (117, ⟨Tryz.f117.ntmps, body117, Tryz.f117.results.toList⟩), (118, ⟨Tryz.f118.ntmps, body118, Tryz.f118.results.toList⟩), (119, ⟨Tryz.f119.ntmps, body119, Tryz.f119.results.toList⟩), (120, ⟨Tryz.f120.ntmps, body120, Tryz.f120.results.toList⟩), (121, ⟨Tryz.f121.ntmps, body121, Tryz.f121.results.toList⟩), (122, ⟨Tryz.f122.ntmps, body122, Tryz.f122.results.toList⟩), (123, ⟨Tryz.f123.ntmps, body123, Tryz.f123.results.toList⟩), (124, ⟨Tryz.f124.ntmps, body124, Tryz.f124.results.toList⟩), (125, ⟨Tryz.f125.ntmps, body125, Tryz.f125.results.toList⟩), (126, ⟨Tryz.f126.ntmps, body126, Tryz.f126.results.toList⟩), (127, ⟨Tryz.f127.ntmps, body127, Tryz.f127.results.toList⟩), (128, ⟨Tryz.f128.ntmps, body128, Tryz.f128.results.toList⟩), (129, ⟨Tryz.f129.ntmps, body129, Tryz.f129.results.toList⟩), (130, ⟨Tryz.f130.ntmps, body130, Tryz.f130.results.toList⟩), (131, ⟨Tryz.f131.ntmps, body131, Tryz.f131.results.toList⟩), (132, ⟨Tryz.f132.ntmps, body132, Tryz.f132.results.toList⟩), (133, ⟨Tryz.f133.ntmps, body133, Tryz.f133.results.toList⟩), (134, ⟨Tryz.f134.ntmps, body134, Tryz.f134.results.toList⟩), (135, ⟨Tryz.f135.ntmps, body135, Tryz.f135.results.toList⟩), (136, ⟨Tryz.f136.ntmps, body136, Tryz.f136.results.toList⟩), (137, ⟨Tryz.f137.ntmps, body137, Tryz.f137.results.toList⟩), (138, ⟨Tryz.f138.ntmps, body138, Tryz.f138.results.toList⟩), (139, ⟨Tryz.f139.ntmps, body139, Tryz.f139.results.toList⟩), (140, ⟨Tryz.f140.ntmps, body140, Tryz.f140.results.toList⟩), (141, ⟨Tryz.f141.ntmps, body141, Tryz.f141.results.toList⟩), (142, ⟨Tryz.f142.ntmps, body142, Tryz.f142.results.toList⟩), (143, ⟨Tryz.f143.ntmps, body143, Tryz.f143.results.toList⟩), (144, ⟨Tryz.f144.ntmps, body144, Tryz.f144.results.toList⟩), (145, ⟨Tryz.f145.ntmps, body145, Tryz.f145.results.toList⟩), (146, ⟨Tryz.f146.ntmps, body146, Tryz.f146.results.toList⟩), (147, ⟨Tryz.f147.ntmps, body147, Tryz.f147.results.toList⟩), (148, ⟨Tryz.f148.ntmps, body148, Tryz.f148.results.toList⟩), (149, ⟨Tryz.f149.ntmps, body149, Tryz.f149.results.toList⟩), (150, ⟨Tryz.f150.ntmps, body150, Tryz.f150.results.toList⟩), (151, ⟨Tryz.f151.ntmps, body151, Tryz.f151.results.toList⟩), (152, ⟨Tryz.f152.ntmps, body152, Tryz.f152.results.toList⟩), (153, ⟨Tryz.f153.ntmps, body153, Tryz.f153.results.toList⟩), (154, ⟨Tryz.f154.ntmps, body154, Tryz.f154.results.toList⟩), (155, ⟨Tryz.f155.ntmps, body155, Tryz.f155.results.toList⟩), (156, ⟨Tryz.f156.ntmps, body156, Tryz.f156.results.toList⟩), (157, ⟨Tryz.f157.ntmps, body157, Tryz.f157.results.toList⟩), (158, ⟨Tryz.f158.ntmps, body158, Tryz.f158.results.toList⟩), (159, ⟨Tryz.f159.ntmps, body159, Tryz.f159.results.toList⟩), (160, ⟨Tryz.f160.ntmps, body160, Tryz.f160.results.toList⟩), (161, ⟨Tryz.f161.ntmps, body161, Tryz.f161.results.toList⟩), (162, ⟨Tryz.f162.ntmps, body162, Tryz.f162.results.toList⟩), (163, ⟨Tryz.f163.ntmps, body163, Tryz.f163.results.toList⟩), (164, ⟨Tryz.f164.ntmps, body164, Tryz.f164.results.toList⟩), (165, ⟨Tryz.f165.ntmps, body165, Tryz.f165.results.toList⟩), (166, ⟨Tryz.f166.ntmps, body166, Tryz.f166.results.toList⟩), (167, ⟨Tryz.f167.ntmps, body167, Tryz.f167.results.toList⟩), (168, ⟨Tryz.f168.ntmps, body168, Tryz.f168.results.toList⟩), (169, ⟨Tryz.f169.ntmps, body169, Tryz.f169.results.toList⟩), (170, ⟨Tryz.f170.ntmps, body170, Tryz.f170.results.toList⟩), (171, ⟨Tryz.f171.ntmps, body171, Tryz.f171.results.toList⟩), (172, ⟨Tryz.f172.ntmps, body172, Tryz.f172.results.toList⟩), (173, ⟨Tryz.f173.ntmps, body173, Tryz.f173.results.toList⟩)]
def AllFn (l : List (Nat × FnI)) : Prop := ∀ p ∈ l, ∃ fn : Func, Tryz.prog.funcs[p.1]? = some fn ∧ fn.body = some p.2.c ∧ fn.ntmps = p.2.nt ∧ fn.results.toList = p.2.rs ∧ env.fn p.1 = true
theorem allFn_nil : AllFn [] := fun p hp => by cases hp
theorem allFn_cons {p : Nat × FnI} {l : List (Nat × FnI)} (h : ∃ fn : Func, Tryz.prog.funcs[p.1]? = some fn ∧ fn.body = some p.2.c ∧ fn.ntmps = p.2.nt ∧ fn.results.toList = p.2.rs ∧ env.fn p.1 = true) (h' : AllFn l) : AllFn (p :: l) := fun q hq => by
 rcases List.mem_cons.1 hq with rfl | hq
 · exact h
 · exact h' q hq
theorem fnl_ok : AllFn fnl := allFn_cons fnk3 (allFn_cons fnk4 (allFn_cons fnk5 (allFn_cons fnk6 (allFn_cons fnk7 (allFn_cons fnk8 (allFn_cons fnk9 (allFn_cons fnk10 (allFn_cons fnk11 (allFn_cons fnk12 (allFn_cons fnk13 (allFn_cons fnk14 (allFn_cons fnk15 (allFn_cons fnk16 (allFn_cons fnk17 (allFn_cons fnk18 (allFn_cons fnk19 (allFn_cons fnk20 (allFn_cons fnk21 (allFn_cons fnk22 (allFn_cons fnk23 (allFn_cons fnk24 (allFn_cons fnk25 (allFn_cons fnk26 (allFn_cons fnk27 (allFn_cons fnk28 (allFn_cons fnk29 (allFn_cons fnk30 (allFn_cons fnk31 (allFn_cons fnk32 (allFn_cons fnk33 (allFn_cons fnk34 (allFn_cons fnk35 (allFn_cons fnk36 (allFn_cons fnk37 (allFn_cons fnk38 (allFn_cons fnk39 (allFn_cons fnk40 (allFn_cons fnk41 (allFn_cons fnk42 (allFn_cons fnk43 (allFn_cons fnk44 (allFn_cons fnk45 (allFn_cons fnk46 (allFn_cons fnk47 (allFn_cons fnk48 (allFn_cons fnk49 (allFn_cons fnk50 (allFn_cons fnk51 (allFn_cons fnk52 (allFn_cons fnk53 (allFn_cons fnk54 (allFn_cons fnk55 (allFn_cons fnk56 (allFn_cons fnk57 (allFn_cons fnk58 (allFn_cons fnk59 (allFn_cons fnk60 (allFn_cons fnk61 (allFn_cons fnk62 (allFn_cons fnk63 (allFn_cons fnk64 (allFn_cons fnk65 (allFn_cons fnk66 (allFn_cons fnk67 (allFn_cons fnk68 (allFn_cons fnk69 (allFn_cons fnk70 (allFn_cons fnk71 (allFn_cons fnk72 (allFn_cons fnk73 (allFn_cons fnk74 (allFn_cons fnk75 (allFn_cons fnk76 (allFn_cons fnk77 (allFn_cons fnk78 (allFn_cons fnk79 (allFn_cons fnk80 (allFn_cons fnk81 (allFn_cons fnk82 (allFn_cons fnk83 (allFn_cons fnk84 (allFn_cons fnk85 (allFn_cons fnk86 (allFn_cons fnk87 (allFn_cons fnk88 (allFn_cons fnk89 (allFn_cons fnk90 (allFn_cons fnk91 (allFn_cons fnk92 (allFn_cons fnk93 (allFn_cons fnk94 (allFn_cons fnk95 (allFn_cons fnk96 (allFn_cons fnk97 (allFn_cons fnk98 (allFn_cons fnk99 (allFn_cons fnk100 (allFn_cons fnk101 (allFn_cons fnk102 (allFn_cons fnk103 (allFn_cons fnk104 (allFn_cons fnk105 (allFn_cons fnk106 (allFn_cons fnk107 (allFn_cons fnk108 (allFn_cons fnk109 (allFn_cons fnk110 (allFn_cons fnk111 (allFn_cons fnk112 (allFn_cons fnk113 (allFn_cons fnk114 (allFn_cons fnk115 (allFn_cons fnk116 (allFn_cons fnk117 (allFn_cons fnk118 (allFn_cons fnk119 (allFn_cons fnk120 (allFn_cons fnk121 (allFn_cons fnk122 (allFn_cons fnk123 (allFn_cons fnk124 (allFn_cons fnk125 (allFn_cons fnk126 (allFn_cons fnk127 (allFn_cons fnk128 (allFn_cons fnk129 (allFn_cons fnk130 (allFn_cons fnk131 (allFn_cons fnk132 (allFn_cons fnk133 (allFn_cons fnk134 (allFn_cons fnk135 (allFn_cons fnk136 (allFn_cons fnk137 (allFn_cons fnk138 (allFn_cons fnk139 (allFn_cons fnk140 (allFn_cons fnk141 (allFn_cons fnk142 (allFn_cons fnk143 (allFn_cons fnk144 (allFn_cons fnk145 (allFn_cons fnk146 (allFn_cons fnk147 (allFn_cons fnk148 (allFn_cons fnk149 (allFn_cons fnk150 (allFn_cons fnk151 (allFn_cons fnk152 (allFn_cons fnk153 (allFn_cons fnk154 (allFn_cons fnk155 (allFn_cons fnk156 (allFn_cons fnk157 (allFn_cons fnk158 (allFn_cons fnk159 (allFn_cons fnk160 (allFn_cons fnk161 (allFn_cons fnk162 (allFn_cons fnk163 (allFn_cons fnk164 (allFn_cons fnk165 (allFn_cons fnk166 (allFn_cons fnk167 (allFn_cons fnk168 (allFn_cons fnk169 (allFn_cons fnk170 (allFn_cons fnk171 (allFn_cons fnk172 (allFn_cons fnk173 (allFn_nil)))))))))))))))))))))))))))))))))))))))))))))))))))))))))))))))))))))))))))))))))))))))))))))))))))))))))))))))))))))))))))))))))))))))))))))))))))))))))))))))))))))))))))
noncomputable def fnT : Tr FnI := Tr.of fnl
theorem fnT_ok : FnOK Tryz.prog env fnT.get := fun k f h => by
 have h1 := lk_mem (Tr.of_get _ _ _ h)
 exact fnl_ok _ h1
def orc0 : Nat → List EV → Option Value := fun _ _ => none
theorem orc0_ok : OrcOK Tryz.prog env orc0 := fun k args v h => by cases h
noncomputable def exc : (Code → Es → Option (Exit × Es)) → Nat → List EV → Es → Option EE := exCe tyP fnT.get
theorem exc_ok : ∀ ih, Sound Tryz.prog ih → CeOK env (exc ih) := fun ih hS => exCe_ok env tyP_ok fnT_ok mixed hS
end Go.Proofs.YtkbfcofifhngfaaGreat
namespace Go.Proofs.YtkbfcofifhngfaaGreat
open Go Go.RowKit Tx
set_option maxRecDepth 100000
theorem awake_run : runTop tyP fnT.get orc0 exc 300 12 [] = some (.v (.bool true)) := by kernel_rfl
theorem awake_calls (w : World) : Calls Tryz.prog 12 #[] w fun e w' => e = .returned (.bool true) ∧ Below w.heap.size w w' :=
 runTop_calls env tyP_ok fnT_ok orc0_ok exc_ok mixed awake_run w
end Go.Proofs.YtkbfcofifhngfaaGreat
namespace Go.Proofs.YtkbfcofifhngfaaGreat
open Go Tx Go.RowKit
set_option linter.unusedSimpArgs false
set_option linter.unusedVariables false
theorem und4 : Tryz.prog.underlying 4 = some .bool := by kernel_rfl
end Go.Proofs.YtkbfcofifhngfaaGreat
namespace Go.Proofs.YtkbfcofifhngfaaGreat
open Go Tx Go.RowKit
set_option linter.unusedSimpArgs false
set_option linter.unusedVariables false
def SD.at (D : SD) (n : Int) : SD := { D with sl := n }
def lsF (D : SD) : Nat → Nat → Nat
 | 0, _ => 0
 | k + 1, n => if (rWhy (D.at n)).isSome = true then lsF D k (n + 1) else n
def lst (D : SD) : Nat := lsF D 40 1
def errL (D : SD) : Int := if scOk D = true then (if lst D = 0 then 7 else 0) else 1
theorem lsF_le (D : SD) : ∀ k n, lsF D k n ≤ k + n
 | 0, n => by simp [lsF]
 | k + 1, n => by
  rw [lsF]
  split
  · have := lsF_le D k (n + 1); omega
  · omega
theorem scOk_at {D : SD} (h : scOk D = true) {n : Nat} (h1 : 1 ≤ n ∧ n ≤ 40) : scOk (D.at n) = true := by
 obtain ⟨hv1, hv2⟩ := scOk_iff.1 h
 exact scOk_iff.2 ⟨by dsimp only [SD.at]; omega, hv2⟩
theorem ScB.sl {s : Sc} (h : ScB s) (n : Int) : ScB { s with sl := n } := ⟨h.1, h.2, h.3, h.4⟩
set_option maxHeartbeats 4000000 in
set_option maxRecDepth 100000 in
theorem Least_ok (s : Sc) (w : World) (h : ScIn s w) (hB : ScB s) :
 Calls Tryz.prog 19 #[s.v] w fun e w' => e = .returned (.tuple #[iv (if scOk s.d = true then (lst s.d : Int) else 0), iv (errL s.d)]) ∧ Below w.heap.size w w' := by
 have c37 := fun (w' : World) (hw : Below w.heap.size w w') => valid_ok s w' (h.below hw) hB
 cases hv : scOk s.d with
 | false =>
  rw [hv] at c37
  have e2 : errL s.d = 1 := by unfold errL; rw [hv]; rfl
  rw [e2]
  obtain ⟨sl, ro, su, go, gc, G, to, tc, T⟩ := s
  refine calls_val env mixed Tryz.func19 has19 Tryz.ntmps19 [.agg #[iv sl, iv ro, iv su, .slice go G.length gc, .slice to T.length tc]] (by simp) ?_
  repeat'
   conv => whnf
   first
    | refine zA ?_ | refine zB ?_ | refine zC ?_ | refine zD ?_ | refine zE ?_ | refine zF ?_ | refine zG ?_ | refine zH ?_ | refine zJ ?_ | refine zI ?_ | refine splT ?_ | refine splF ?_ | refine splNot ?_
    | ((first | refine splIn ?_ ?_ | refine splD ?_ ?_ | refine splE ?_ ?_ | refine splNE ?_ ?_) <;> intro hc <;> first | (exfalso; omega) | (exfalso; dsimp only at hc; omega) | skip)
    | ((with_reducible show CallEv _ _ 37 _ _ _ _ _); refine callE (k := 37) (fun β w' hbw => c37 _ hbw) ?_)
  all_goals first | (exfalso; omega) | exact ⟨fun β => rfl, fun w' h => h⟩
 | true =>
  rw [hv] at c37
  have e2 : errL s.d = if lst s.d = 0 then 7 else 0 := by unfold errL; rw [hv]; rfl
  rw [e2, if_pos rfl]
  have c38 : ∀ (n : Nat), 1 ≤ n ∧ n ≤ 40 → ∀ (w' : World), Below w.heap.size w w' → Calls Tryz.prog 38 #[({ s with sl := n } : Sc).v] w' fun e w2 => ∃ y : RnF (rWhy (s.d.at n)), e = .returned (.tuple #[y.1.v, .bool (rWhy (s.d.at n)).isSome]) ∧ Below w'.heap.size w' w2 ∧ St w'.heap.size (St w.heap.size fun _ => True) w2 := fun n hn w' hw => by
   have hx : ({ s with sl := n } : Sc).d = s.d.at n := rfl
   have h0 : ScIn { s with sl := n } w' := ⟨(h.below hw).1, (h.below hw).2, (h.below hw).3, (h.below hw).4⟩
   have := why_ok { s with sl := n } w' h0 (hB.sl n) (by rw [hx]; exact scOk_at hv hn)
   rw [hx] at this
   exact this.mono fun e w2 ⟨y, h1, h2, h3⟩ => ⟨y, h1, h2, fun _ _ _ _ => trivial⟩
  generalize s.d = D at *
  obtain ⟨sl, ro, su, go, gc, G, to, tc, T⟩ := s
  dsimp only at c38
  refine calls_val env mixed Tryz.func19 has19 Tryz.ntmps19 [.agg #[iv sl, iv ro, iv su, .slice go G.length gc, .slice to T.length tc]] (by simp) ?_
  repeat'
   conv => whnf
   first
    | refine zA ?_ | refine zB ?_ | refine zC ?_ | refine zD ?_ | refine zE ?_ | refine zF ?_ | refine zG ?_ | refine zH ?_ | refine zJ ?_ | refine zI ?_ | refine splT ?_ | refine splF ?_ | refine splNot ?_
    | ((first | refine splIn ?_ ?_ | refine splD ?_ ?_ | refine splE ?_ ?_ | refine splNE ?_ ?_) <;> intro hc <;> first | (exfalso; omega) | (exfalso; dsimp only at hc; omega) | skip)
    | ((with_reducible show CallEv _ _ 37 _ _ _ _ _); refine callE (k := 37) (fun β w' hbw => c37 _ hbw) ?_)
  refine loopN 10 (fun n : Nat => [(1, .ptr 0 0)]) (fun n => [(0, .cells [.v (iv n), .v (iv ro), .v (iv su), .v (.slice go G.length gc), .v (.slice to T.length tc)] 34)]) (fun n => 1 ≤ n ∧ n ≤ 41 ∧ lst D = lsF D (41 - n) n) (fun n => 41 - n) 1 ⟨Nat.le_refl _, by omega, rfl⟩ ⟨rfl, trivial⟩ ⟨rfl, trivial⟩ (fun _ _ => ⟨rfl, rfl⟩) ?_
  intro n ⟨h1, h2, h3⟩
  rcases Nat.lt_or_ge n 41 with hn | hn
  · have c38 := c38 n ⟨h1, by omega⟩
    rw [show 41 - n = (40 - n) + 1 from by omega, lsF] at h3
    cases hr : rWhy (D.at n) with
    | some r =>
     rw [hr] at c38 h3
     simp only [Option.isSome_some, if_true] at h3
     repeat'
      conv => whnf
      first
       | refine zA ?_ | refine zB ?_ | refine zC ?_ | refine zD ?_ | refine zE ?_ | refine zF ?_ | refine zG ?_ | refine zH ?_ | refine zJ ?_ | refine zI ?_ | refine splT ?_ | refine splF ?_ | refine splNot ?_
       | ((first | refine splIn ?_ ?_ | refine splD ?_ ?_ | refine splE ?_ ?_ | refine splNE ?_ ?_) <;> intro hc <;> first | (exfalso; omega) | (exfalso; dsimp only at hc; omega) | skip)
       | ((with_reducible show CallEv _ _ 38 _ _ _ _ _); refine callF [] (fun y : RnF (some r) => .tuple #[y.1.v, .bool (some r : Option RD).isSome]) (fun y => St w.heap.size fun _ => True) (fun β w' _ hbw => c38 w' hbw) ?_; intro y)
     all_goals first | (exfalso; omega) | exact ⟨n + 1, ⟨by omega, by omega, by rw [h3]; congr 1; omega⟩, by omega, Ent.weak rfl ⟨rfl, trivial⟩ ⟨rfl, trivial⟩ fun _ h => h.1⟩
    | none =>
     rw [hr] at c38 h3
     simp only [Option.isSome_none, Bool.false_eq_true, if_false] at h3
     rw [h3, if_neg (by omega)]
     repeat'
      conv => whnf
      first
       | refine zA ?_ | refine zB ?_ | refine zC ?_ | refine zD ?_ | refine zE ?_ | refine zF ?_ | refine zG ?_ | refine zH ?_ | refine zJ ?_ | refine zI ?_ | refine splT ?_ | refine splF ?_ | refine splNot ?_
       | ((first | refine splIn ?_ ?_ | refine splD ?_ ?_ | refine splE ?_ ?_ | refine splNE ?_ ?_) <;> intro hc <;> first | (exfalso; omega) | (exfalso; dsimp only at hc; omega) | skip)
       | ((with_reducible show CallEv _ _ 38 _ _ _ _ _); refine callF [] (fun y : RnF none => .tuple #[y.1.v, .bool (none : Option RD).isSome]) (fun y => St w.heap.size fun _ => True) (fun β w' _ hbw => c38 w' hbw) ?_; intro y)
     all_goals first | (exfalso; omega) | exact ⟨fun β => rfl, fun w' h => h.1⟩
  · obtain rfl : n = 41 := by omega
    have h3 : lst D = 0 := h3
    rw [h3]
    repeat'
     conv => whnf
     first
      | refine zA ?_ | refine zB ?_ | refine zC ?_ | refine zD ?_ | refine zE ?_ | refine zF ?_ | refine zG ?_ | refine zH ?_ | refine zJ ?_ | refine zI ?_ | refine splT ?_ | refine splF ?_ | refine splNot ?_
      | ((first | refine splIn ?_ ?_ | refine splD ?_ ?_ | refine splE ?_ ?_ | refine splNE ?_ ?_) <;> intro hc <;> first | (exfalso; omega) | (exfalso; dsimp only at hc; omega) | skip)
    all_goals first | (exfalso; omega) | exact ⟨fun β => rfl, fun w' h => h⟩
set_option maxHeartbeats 4000000 in
set_option maxRecDepth 100000 in
theorem RLeast_ok (s : Sc) (w : World) (h : ScIn s w) (hB : ScB s) (hv : scOk s.d = true) :
 Calls Tryz.prog 20 #[s.v] w fun e w' => e = .returned (iv (lst s.d : Int)) ∧ Below w.heap.size w w' := by
 have c16 : ∀ (n : Nat), 1 ≤ n ∧ n ≤ 40 → ∀ (w' : World), Below w.heap.size w w' → Calls Tryz.prog 16 #[({ s with sl := n } : Sc).v] w' fun e w2 => ∃ y : RnF (rWhy (s.d.at n)), e = .returned (.tuple #[y.1.v, .bool (rWhy (s.d.at n)).isSome]) ∧ Below w'.heap.size w' w2 ∧ St w'.heap.size (St w.heap.size fun _ => True) w2 := fun n hn w' hw => by
  have hx : ({ s with sl := n } : Sc).d = s.d.at n := rfl
  have h0 : ScIn { s with sl := n } w' := ⟨(h.below hw).1, (h.below hw).2, (h.below hw).3, (h.below hw).4⟩
  have := RWhy_ok { s with sl := n } w' h0 (hB.sl n) (by rw [hx]; exact scOk_at hv hn)
  rw [hx] at this
  exact this.mono fun e w2 ⟨y, h1, h2, h3⟩ => ⟨y, h1, h2, fun _ _ _ _ => trivial⟩
 generalize s.d = D at *
 obtain ⟨sl, ro, su, go, gc, G, to, tc, T⟩ := s
 dsimp only at c16
 refine calls_val env mixed Tryz.func20 has20 Tryz.ntmps20 [.agg #[iv sl, iv ro, iv su, .slice go G.length gc, .slice to T.length tc]] (by simp) ?_
 repeat'
  conv => whnf
  first
   | refine zA ?_ | refine zB ?_ | refine zC ?_ | refine zD ?_ | refine zE ?_ | refine zF ?_ | refine zG ?_ | refine zH ?_ | refine zJ ?_ | refine zI ?_ | refine splT ?_ | refine splF ?_ | refine splNot ?_
   | ((first | refine splIn ?_ ?_ | refine splD ?_ ?_ | refine splE ?_ ?_ | refine splNE ?_ ?_) <;> intro hc <;> first | (exfalso; omega) | (exfalso; dsimp only at hc; omega) | skip)
 refine loopN 20 (fun n : Nat => [(1, .ptr 0 0), (3, .v (iv n))]) (fun n => [(0, .cells [.v (iv sl), .v (iv ro), .v (iv su), .v (.slice go G.length gc), .v (.slice to T.length tc)] 25)]) (fun n => 1 ≤ n ∧ n ≤ 41 ∧ lst D = lsF D (41 - n) n) (fun n => 41 - n) 1 ⟨Nat.le_refl _, by omega, rfl⟩ ⟨rfl, rfl, trivial⟩ ⟨rfl, trivial⟩ (fun _ _ => ⟨rfl, rfl⟩) ?_
 intro n ⟨h1, h2, h3⟩
 rcases Nat.lt_or_ge n 41 with hn | hn
 · have c16 := c16 n ⟨h1, by omega⟩
   rw [show 41 - n = (40 - n) + 1 from by omega, lsF] at h3
   cases hr : rWhy (D.at n) with
   | some r =>
    rw [hr] at c16 h3
    simp only [Option.isSome_some, if_true] at h3
    repeat'
     conv => whnf
     first
      | refine zA ?_ | refine zB ?_ | refine zC ?_ | refine zD ?_ | refine zE ?_ | refine zF ?_ | refine zG ?_ | refine zH ?_ | refine zJ ?_ | refine zI ?_ | refine splT ?_ | refine splF ?_ | refine splNot ?_
      | ((first | refine splIn ?_ ?_ | refine splD ?_ ?_ | refine splE ?_ ?_ | refine splNE ?_ ?_) <;> intro hc <;> first | (exfalso; omega) | (exfalso; dsimp only at hc; omega) | skip)
      | ((with_reducible show CallEv _ _ 16 _ _ _ _ _); refine callF [] (fun y : RnF (some r) => .tuple #[y.1.v, .bool (some r : Option RD).isSome]) (fun y => St w.heap.size fun _ => True) (fun β w' _ hbw => c16 w' hbw) ?_; intro y)
    all_goals first | (exfalso; omega) | exact ⟨n + 1, ⟨by omega, by omega, by rw [h3]; congr 1; omega⟩, by omega, Ent.weak rfl ⟨rfl, rfl, trivial⟩ ⟨rfl, trivial⟩ fun _ h => h.1⟩
   | none =>
    rw [hr] at c16 h3
    simp only [Option.isSome_none, Bool.false_eq_true, if_false] at h3
    rw [h3]
    repeat'
     conv => whnf
     first
      | refine zA ?_ | refine zB ?_ | refine zC ?_ | refine zD ?_ | refine zE ?_ | refine zF ?_ | refine zG ?_ | refine zH ?_ | refine zJ ?_ | refine zI ?_ | refine splT ?_ | refine splF ?_ | refine splNot ?_
      | ((first | refine splIn ?_ ?_ | refine splD ?_ ?_ | refine splE ?_ ?_ | refine splNE ?_ ?_) <;> intro hc <;> first | (exfalso; omega) | (exfalso; dsimp only at hc; omega) | skip)
      | ((with_reducible show CallEv _ _ 16 _ _ _ _ _); refine callF [] (fun y : RnF none => .tuple #[y.1.v, .bool (none : Option RD).isSome]) (fun y => St w.heap.size fun _ => True) (fun β w' _ hbw => c16 w' hbw) ?_; intro y)
    all_goals first | (exfalso; omega) | exact ⟨fun β => rfl, fun w' h => h.1⟩
 · obtain rfl : n = 41 := by omega
   have h3 : lst D = 0 := h3
   rw [h3]
   repeat'
    conv => whnf
    first
     | refine zA ?_ | refine zB ?_ | refine zC ?_ | refine zD ?_ | refine zE ?_ | refine zF ?_ | refine zG ?_ | refine zH ?_ | refine zJ ?_ | refine zI ?_ | refine splT ?_ | refine splF ?_ | refine splNot ?_
     | ((first | refine splIn ?_ ?_ | refine splD ?_ ?_ | refine splE ?_ ?_ | refine splNE ?_ ?_) <;> intro hc <;> first | (exfalso; omega) | (exfalso; dsimp only at hc; omega) | skip)
   all_goals first | (exfalso; omega) | exact ⟨fun β => rfl, fun w' h => h⟩
set_option maxHeartbeats 8000000 in
set_option maxRecDepth 100000 in
theorem SchoolLeast_ok (s : Sc) (w : World) (h : ScIn s w) (hX : ScX s) :
 Calls Tryz.prog 4 #[s.v] w fun e w' => e = .returned (.bool true) ∧ Below w.heap.size w w' := by
 have h12 := fun w' => awake_calls w'
 have h11 := fun (w' : World) (hw : Below w.heap.size w w') => Thin_ok s w' (h.below hw) hX
 cases hth : thS s.d with
 | false =>
  rw [hth] at h11
  obtain ⟨sl, ro, su, go, gc, G, to, tc, T⟩ := s
  refine calls_val env mixed Tryz.func4 has4 Tryz.ntmps4 [.agg #[iv sl, iv ro, iv su, .slice go G.length gc, .slice to T.length tc]] (by simp) ?_
  repeat'
   conv => whnf
   first
    | refine zA ?_ | refine zB ?_ | refine zC ?_ | refine zD ?_ | refine zE ?_ | refine zF ?_ | refine zG ?_ | refine zH ?_ | refine zJ ?_ | refine zI ?_ | refine splT ?_ | refine splF ?_ | refine splNot ?_
    | ((first | refine splIn ?_ ?_ | refine splD ?_ ?_ | refine splE ?_ ?_ | refine splNE ?_ ?_) <;> intro hc <;> first | (exfalso; omega) | (exfalso; dsimp only at hc; omega) | skip)
    | ((with_reducible show CallEv _ _ 11 _ _ _ _ _); refine callE (k := 11) (fun β w' hbw => h11 _ hbw) ?_)
    | ((with_reducible show CallEv _ _ 12 _ _ _ _ _); refine callE (k := 12) (fun β w' hbw => h12 w') ?_)
  all_goals first | exact ⟨fun β => rfl, fun w' h => h⟩ | (exfalso; omega)
 | true =>
  rw [hth] at h11
  have hB := ScX.b hth
  have h14 := fun (w' : World) (hw : Below w.heap.size w w') => famS hw (School_ok s w' (h.below hw) hB)
  have h19 : ∀ (y : { y : Sc // y.d = s.d }) (w' : World), ScIn y.1 w' → Calls Tryz.prog 19 #[y.1.v] w' fun e w2 => e = .returned (.tuple #[iv (if scOk s.d = true then (lst s.d : Int) else 0), iv (errL s.d)]) ∧ Below w'.heap.size w' w2 := fun y w' h1 => by
   have := Least_ok y.1 w' h1 (hB.d y.2)
   rw [y.2] at this
   exact this
  have h15 := fun (w' : World) (hw : Below w.heap.size w w') => RightS_ok s w' (h.below hw) hB
  have h20 := fun (hv : scOk s.d = true) (w' : World) (hw : Below w.heap.size w w') => RLeast_ok s w' (h.below hw) hB hv
  have hle : lst s.d ≤ 41 := lsF_le s.d 40 1
  generalize hD : s.d = D at *
  obtain ⟨sl, ro, su, go, gc, G, to, tc, T⟩ := s
  cases hv : scOk D with
  | false =>
   have e1 : errL D = 1 := by unfold errL; rw [hv]; rfl
   rw [hv, e1] at h19
   rw [hv] at h15
   refine calls_val env mixed Tryz.func4 has4 Tryz.ntmps4 [.agg #[iv sl, iv ro, iv su, .slice go G.length gc, .slice to T.length tc]] (by simp) ?_
   repeat'
    conv => whnf
    first
     | refine zA ?_ | refine zB ?_ | refine zC ?_ | refine zD ?_ | refine zE ?_ | refine zF ?_ | refine zG ?_ | refine zH ?_ | refine zJ ?_ | refine zI ?_ | refine splT ?_ | refine splF ?_ | refine splNot ?_
     | ((first | refine splIn ?_ ?_ | refine splD ?_ ?_ | refine splE ?_ ?_ | refine splNE ?_ ?_) <;> intro hc <;> first | (exfalso; omega) | (exfalso; dsimp only at hc; omega) | skip)
     | ((with_reducible show CallEv _ _ 11 _ _ _ _ _); refine callE (k := 11) (fun β w' hbw => h11 _ hbw) ?_)
     | ((with_reducible show CallEv _ _ 14 _ _ _ _ _); refine callF [] (fun y : { y : Sc // y.d = D } => y.1.v) (fun y => St w.heap.size (ScIn y.1)) (fun β w' _ hbw => h14 w' (by repeat (first | exact hbw | replace hbw := hbw.1))) ?_; intro y)
     | ((with_reducible show CallEv _ _ 19 _ _ _ _ _); refine callE (k := 19) (fun β w' hbw => (h19 y) w' (St.now hbw.2)) ?_)
     | ((with_reducible show CallEv _ _ 15 _ _ _ _ _); refine callE (k := 15) (fun β w' hbw => h15 w' hbw.1) ?_)
     | ((with_reducible show CallEv _ _ 12 _ _ _ _ _); refine callE (k := 12) (fun β w' hbw => h12 w') ?_)
   all_goals first | exact ⟨fun β => rfl, fun w' h => h.1⟩ | (exfalso; omega)
  | true =>
   rw [hv] at h15
   have h20 := h20 hv
   have e1 : errL D = if lst D = 0 then 7 else 0 := by unfold errL; rw [hv]; rfl
   rw [hv, e1, if_pos rfl] at h19
   by_cases h0 : lst D = 0
   · rw [h0] at h19 h20
     refine calls_val env mixed Tryz.func4 has4 Tryz.ntmps4 [.agg #[iv sl, iv ro, iv su, .slice go G.length gc, .slice to T.length tc]] (by simp) ?_
     repeat'
      conv => whnf
      first
       | refine zA ?_ | refine zB ?_ | refine zC ?_ | refine zD ?_ | refine zE ?_ | refine zF ?_ | refine zG ?_ | refine zH ?_ | refine zJ ?_ | refine zI ?_ | refine splT ?_ | refine splF ?_ | refine splNot ?_
       | ((first | refine splIn ?_ ?_ | refine splD ?_ ?_ | refine splE ?_ ?_ | refine splNE ?_ ?_) <;> intro hc <;> first | (exfalso; omega) | (exfalso; dsimp only at hc; omega) | skip)
       | ((with_reducible show CallEv _ _ 11 _ _ _ _ _); refine callE (k := 11) (fun β w' hbw => h11 _ hbw) ?_)
       | ((with_reducible show CallEv _ _ 14 _ _ _ _ _); refine callF [] (fun y : { y : Sc // y.d = D } => y.1.v) (fun y => St w.heap.size (ScIn y.1)) (fun β w' _ hbw => h14 w' (by repeat (first | exact hbw | replace hbw := hbw.1))) ?_; intro y)
       | ((with_reducible show CallEv _ _ 19 _ _ _ _ _); refine callE (k := 19) (fun β w' hbw => (h19 y) w' (St.now hbw.2)) ?_)
       | ((with_reducible show CallEv _ _ 15 _ _ _ _ _); refine callE (k := 15) (fun β w' hbw => h15 w' hbw.1) ?_)
       | ((with_reducible show CallEv _ _ 20 _ _ _ _ _); refine callE (k := 20) (fun β w' hbw => h20 w' hbw.1) ?_)
       | ((with_reducible show CallEv _ _ 12 _ _ _ _ _); refine callE (k := 12) (fun β w' hbw => h12 w') ?_)
     all_goals first | exact ⟨fun β => rfl, fun w' h => h.1⟩ | (exfalso; omega)
   · rw [if_neg h0] at h19
     generalize lst D = m at *
     refine calls_val env mixed Tryz.func4 has4 Tryz.ntmps4 [.agg #[iv sl, iv ro, iv su, .slice go G.length gc, .slice to T.length tc]] (by simp) ?_
     repeat'
      conv => whnf
      first
       | refine zA ?_ | refine zB ?_ | refine zC ?_ | refine zD ?_ | refine zE ?_ | refine zF ?_ | refine zG ?_ | refine zH ?_ | refine zJ ?_ | refine zI ?_ | refine splT ?_ | refine splF ?_ | refine splNot ?_
       | ((first | refine splIn ?_ ?_ | refine splD ?_ ?_ | refine splE ?_ ?_ | refine splNE ?_ ?_) <;> intro hc <;> first | (exfalso; omega) | (exfalso; dsimp only at hc; omega) | skip)
       | ((with_reducible show CallEv _ _ 11 _ _ _ _ _); refine callE (k := 11) (fun β w' hbw => h11 _ hbw) ?_)
       | ((with_reducible show CallEv _ _ 14 _ _ _ _ _); refine callF [] (fun y : { y : Sc // y.d = D } => y.1.v) (fun y => St w.heap.size (ScIn y.1)) (fun β w' _ hbw => h14 w' (by repeat (first | exact hbw | replace hbw := hbw.1))) ?_; intro y)
       | ((with_reducible show CallEv _ _ 19 _ _ _ _ _); refine callE (k := 19) (fun β w' hbw => (h19 y) w' (St.now hbw.2)) ?_)
       | ((with_reducible show CallEv _ _ 15 _ _ _ _ _); refine callE (k := 15) (fun β w' hbw => h15 w' hbw.1) ?_)
       | ((with_reducible show CallEv _ _ 20 _ _ _ _ _); refine callE (k := 20) (fun β w' hbw => h20 w' hbw.1) ?_)
       | ((with_reducible show CallEv _ _ 12 _ _ _ _ _); refine callE (k := 12) (fun β w' hbw => h12 w') ?_)
     all_goals first | exact ⟨fun β => rfl, fun w' h => h.1⟩ | (exfalso; omega)
end Go.Proofs.YtkbfcofifhngfaaGreat
namespace Go.Proofs.YtkbfcofifhngfaaGreat
open Go Tx Go.RowKit Go.WideShapes
set_option linter.unusedSimpArgs false
set_option linter.unusedVariables false
abbrev I64 (n : Int) : Prop := -9223372036854775808 ≤ n ∧ n ≤ 9223372036854775807
def shI : Shp := .int .i64
def shTe : Shp := .agg [.sl 1 shI, shI]
def shSc : Shp := .agg [shI, shI, shI, .sl 1 (.sl 1 shI), .sl 2 shTe]
theorem op_slc {α : Type} {w : World} {sz : Nat} {e : Shp} {f : α → List Value} {Q : α → Prop} (he : ∀ es, e.rd w es → ∃ x, es = f x ∧ Q x) {cs : List Value} (h : (Shp.sl sz e).rd w cs) :
 ∃ (o : Option Addr) (c : Nat) (xs : List α), cs = [.slice o xs.length c] ∧ Rd sz f (.slice o xs.length c) xs w ∧ xs.length ≤ 9223372036854775807 ∧ ∀ x ∈ xs, Q x := by
 unfold Shp.rd at h
 rcases h with rfl | ⟨a, n, c, rfl, h1, h2, h3⟩
 · exact ⟨none, 0, [], rfl, .inl ⟨rfl, rfl⟩, by simp, fun x hx => by simp at hx⟩
 · obtain ⟨xs, hl, hb⟩ := list_of (Q := fun i (x : α) => (∀ j v, (f x)[j]? = some v → w.cell? ((a.add (i * sz)).add j) = some v) ∧ Q x) n fun i hi => by
    obtain ⟨es, _, e2, e3⟩ := h3 i hi
    obtain ⟨x, rfl, hx⟩ := he es e3
    exact ⟨x, e2, hx⟩
   subst hl
   exact ⟨some a, c, xs, rfl, .inr ⟨a, c, rfl, fun k b hk => (hb k b hk).1⟩, by unfold maxLen at h2; omega, fun x hx => by
    obtain ⟨k, hk⟩ := List.mem_iff_getElem?.1 hx
    exact (hb k x hk).2⟩
theorem op_i {w : World} {es : List Value} (h : shI.rd w es) : ∃ n : Int, es = iF n ∧ I64 n := by
 simp only [shI, Shp.rd] at h
 obtain ⟨n, rfl, g⟩ := h
 exact ⟨n, rfl, wf64 g⟩
theorem op_ints {w : World} {cs : List Value} (h : (Shp.sl 1 shI).rd w cs) : ∃ (o : Option Addr) (c : Nat) (xs : List Int), cs = [.slice o xs.length c] ∧ Rd 1 iF (.slice o xs.length c) xs w ∧ xs.length ≤ 9223372036854775807 ∧ ∀ x ∈ xs, I64 x :=
 op_slc (f := iF) (Q := I64) (fun es h => op_i h) h
theorem op_rw {w : World} {es : List Value} (h : (Shp.sl 1 shI).rd w es) : ∃ r : Rw, es = Rw.cs r ∧ Rd 1 iF r.v r.xs w ∧ r.xs.length ≤ 9223372036854775807 := by
 obtain ⟨o, c, xs, h1, h2, h3, _⟩ := op_ints h
 exact ⟨⟨o, c, xs⟩, h1, h2, h3⟩
theorem op_te {w : World} {es : List Value} (h : shTe.rd w es) : ∃ s : Tc, es = Tc.cs s ∧ Rd 1 iF (.slice s.o s.T.length s.c) s.T w ∧ s.T.length ≤ 9223372036854775807 ∧ I64 s.h := by
 simp only [shTe, Shp.rd.eq_3, Shp.rds] at h
 obtain ⟨_, _, rfl, h2, _, _, rfl, h3, rfl⟩ := h
 obtain ⟨n0, rfl, g0⟩ := op_i h3
 obtain ⟨o, c, xs, rfl, h3, h4, _⟩ := op_ints h2
 exact ⟨⟨o, c, xs, n0⟩, rfl, h3, h4, g0⟩
theorem op_school {w : World} {cs : List Value} (h : shSc.rd w cs) : ∃ x : Sc, cs = [iv x.sl, iv x.ro, iv x.su, .slice x.go x.G.length x.gc, .slice x.to x.T.length x.tc] ∧ ScIn x w ∧ ScX x ∧ (I64 x.sl ∧ I64 x.ro ∧ I64 x.su ∧ ∀ t ∈ x.T, I64 t.h) := by
 unfold shSc at h
 simp only [Shp.rd.eq_3, Shp.rds] at h
 obtain ⟨_, _, rfl, h1, _, _, rfl, h2, _, _, rfl, h3, _, _, rfl, h4, _, _, rfl, h5, rfl⟩ := h
 obtain ⟨n1, rfl, g1⟩ := op_i h1
 obtain ⟨n2, rfl, g2⟩ := op_i h2
 obtain ⟨n3, rfl, g3⟩ := op_i h3
 obtain ⟨go, gc, G, rfl, b1, b2, b3⟩ := op_slc (f := Rw.cs) (Q := fun r => Rd 1 iF r.v r.xs w ∧ r.xs.length ≤ 9223372036854775807) (fun es h => op_rw h) h4
 obtain ⟨to, tc, T, rfl, d1, d2, d3⟩ := op_slc (f := Tc.cs) (Q := fun s => Rd 1 iF (.slice s.o s.T.length s.c) s.T w ∧ s.T.length ≤ 9223372036854775807 ∧ I64 s.h) (fun es h => op_te h) h5
 exact ⟨⟨n1, n2, n3, go, gc, G, to, tc, T⟩, rfl, ⟨b1, fun r hr => (b3 r hr).1, d1, fun t ht => (d3 t ht).1⟩, ⟨b2, fun r hr => (b3 r hr).2, d2, fun t ht => (d3 t ht).2.1⟩, g1, g2, g3, fun t ht => (d3 t ht).2.2⟩
end Go.Proofs.YtkbfcofifhngfaaGreat
