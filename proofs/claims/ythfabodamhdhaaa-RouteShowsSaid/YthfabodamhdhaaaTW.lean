/- The law of tables that show a bound. -/
import Derived.Test.YthfabodamhdhaaaTV
import Derived.Test.YthfabodamhdhaaaTU
import Derived.Test.YthfabodamhdhaaaTX
namespace Go.Proofs.Ythfabodamhdhaaa
open Go Tx Go.RowKit
set_option linter.unusedSimpArgs false
set_option linter.unusedVariables false

/-- A table that is told from a lower block on. -/
theorem TbIn.mono {m m2 N : Nat} {y : TbG} {C : List (List Int)} {w : World} (h : TbIn m N y C w) (hm : m2 ≤ m) : TbIn m2 N y C w := ⟨h.l, h.n, h.h, h.r, h.d, fun p hp => ⟨Nat.le_trans hm (h.a p hp).1, (h.a p hp).2⟩, Nat.le_trans hm h.m⟩
theorem under4 : Try.prog.underlying 4 = some .bool := by kernel_rfl
theorem guard4 : Try.prog.eqGuardType Try.prog.depth 4 = false := by kernel_rfl
theorem eqInB (d : Nat) (a : Bool) (w : World) : (Op.equalIn (d + 1) 4 (.bool a) (.bool a)).run Try.prog w = .ok true w := by
  simp [Op.equalIn, under4]
theorem eqlB (a : Bool) (x y : Operand) : RunIs Try.prog (do eqGuard .eql 4 x y (.bool a) (.bool a); binOp .eql 4 (.bool a) (.bool a)) (.bool true) := fun w => by
  have h := eqInB 9999 a w
  simp [eqGuard, binOp, guard4, Op.equal, Op.maxDepth, h]
/-- The same bools are equal. -/
theorem eqlS {a : Bool} {x y : Operand} {K : Value → Prop} (h : K (.bool true)) : ∃ v, (∀ _ : Nat → Nat, RunIs Try.prog (do eqGuard .eql 4 x y (.bool a) (.bool a); binOp .eql 4 (.bool a) (.bool a)) v) ∧ K v := ⟨_, fun _ => eqlB a x y, h⟩
set_option maxHeartbeats 16000000 in
set_option maxRecDepth 100000 in
theorem RouteShows_ok (x : Tr) (o : Option Addr) (c : Nat) (F : List Int) (bound : Int) (bo : Option Addr) (bc : Nat) (R : List Iw) (own : Bool) (row at_ by_ : Int) (w : World) (h : TrI0 x w) (hF : Rd 1 iF (.slice o F.length c) F w) (hFl : F.length ≤ 9223372036854775807)
    (hR : Rd 1 Iw.cs (.slice bo R.length bc) R w) (hRr : ∀ r ∈ R, Rd 1 iF (.slice r.o r.xs.length r.c) r.xs w) (hRl : R.length ≤ 9223372036854775807) (hRn : ∀ r ∈ R, r.xs.length ≤ 9223372036854775807) :
    Calls Try.prog 9 #[x.v, .slice o F.length c, iv bound, .slice bo R.length bc, .bool own, iv row, iv at_, iv by_] w fun e w' => e = .returned (.bool true) ∧ Below w.heap.size w w' := by
  have h17 := fun w' hb => Small_ok x w' (h.below hb)
  have h22 := fun w' hb => Right_ok x w' (h.below hb)
  have htl := h.tl
  by_cases hg : (smB x.d = true ∧ F.length ≤ 15) ∧ R.length ≤ 12
  · obtain ⟨⟨hsm, hs15⟩, hR12⟩ := hg
    rw [hsm] at h17
    have hB := smB_b hsm
    have hI := h.b hB
    have hT := fun w' hb => Tour_ok x w' (hI.below hb) hB
    have h29 := fun w' (hb : Below w.heap.size w w') => list_ok F o c w' (hF.below hb) (by omega)
    have h30 := fun (hT2 : 1 ≤ x.T.length) w' (hb : Below w.heap.size w w') => rfees_ok x o c F w' (hF.below hb) (by omega) hT2
    have hlen : x.d.T.length = x.T.length := List.length_map ..
    obtain ⟨tb, htb⟩ : ∃ b, toB x.d = b := ⟨_, rfl⟩
    obtain ⟨fb, hfb⟩ : ∃ b, feB x.T.length F = b := ⟨_, rfl⟩
    obtain ⟨rg, hrg⟩ : ∃ b, (tb && fb) = b := ⟨_, rfl⟩
    have h43 : ∀ (y : Tr) (y2 : Option Addr × Nat) (y3 : (Option Addr × Nat) × List Iw) (q : Int × (Option Addr × Nat) × List Iw) w', (q.2.2.length ≤ 12 ∧ ∀ r ∈ q.2.2, r.xs.length ≤ 70) → TrIn y w' ∧ y.d = x.d → Rd 1 iF (sV F.length y2) F w' → (Rd 1 Iw.cs (.slice y3.1.1 y3.2.length y3.1.2) y3.2 w' ∧ ∀ r ∈ y3.2, Rd 1 iF (.slice r.o r.xs.length r.c) r.xs w') ∧ y3.2.map Iw.xs = q.2.2.map Iw.xs →
        Calls Try.prog 43 #[y.v, sV F.length y2, iv q.1, .slice y3.1.1 y3.2.length y3.1.2] w' fun e w2 => e = .returned (.bool (rg && shO x.d F q.1 (q.2.2.map Iw.xs))) ∧ Below w'.heap.size w' w2 := fun y y2 y3 q w' hq h1 h2 h3 => by
      have hyl : y.T.length = x.T.length := by
        have := congrArg (fun x : To => x.T.length) h1.2
        simpa [Tr.d] using this
      have hl3 : y3.2.length = q.2.2.length := by simpa using congrArg List.length h3.2
      have hr3 : ∀ r ∈ y3.2, r.xs.length ≤ 70 := fun r hr => by
        have h4 : r.xs ∈ q.2.2.map Iw.xs := by rw [← h3.2]; exact List.mem_map.2 ⟨r, hr, rfl⟩
        obtain ⟨r', h5, h6⟩ := List.mem_map.1 h4
        rw [← h6]; exact hq.2 r' h5
      have := PB_ok y y2.1 y2.2 F q.1 y3.1.1 y3.1.2 y3.2 w' h1.1 h2 (by omega) h3.1.1 h3.1.2 (by omega) (fun r hr => by have := hr3 r hr; omega)
      rw [h1.2, hyl, htb, hfb, hrg, h3.2] at this
      exact this
    have h45 : rg = true → ∀ (q : Int × (Option Addr × Nat) × List Iw) w', (q.2.2.length ≤ 12 ∧ ∀ r ∈ q.2.2, r.xs.length ≤ 70) → Below w.heap.size w w' → (Rd 1 Iw.cs (.slice q.2.1.1 q.2.2.length q.2.1.2) q.2.2 w' ∧ ∀ r ∈ q.2.2, Rd 1 iF (.slice r.o r.xs.length r.c) r.xs w') →
        Calls Try.prog 45 #[x.v, .slice o F.length c, iv q.1, .slice q.2.1.1 q.2.2.length q.2.1.2] w' fun e w2 => e = .returned (.bool (shO x.d F q.1 (q.2.2.map Iw.xs))) ∧ Below w'.heap.size w' w2 := fun e q w' hq hb h3 => by
      rw [e, Bool.and_eq_true] at hrg
      exact rshows_ok x o c F q.1 q.2.1.1 q.2.1.2 q.2.2 w' (hI.below hb) (hF.below hb) (by rw [htb]; exact hrg.1) (by rw [hfb]; exact hrg.2) h3.1 h3.2 (by omega) (fun r hr => by have := hq.2 r hr; omega)
    have h44' := fun (q : Int × (Option Addr × Nat) × List Iw) w' (hq : q.2.2.length ≤ 12 ∧ ∀ r ∈ q.2.2, r.xs.length ≤ 70) (h3 : Rd 1 Iw.cs (.slice q.2.1.1 q.2.2.length q.2.1.2) q.2.2 w' ∧ ∀ r ∈ q.2.2, Rd 1 iF (.slice r.o r.xs.length r.c) r.xs w') => rows_ok q.2.2 q.2.1.1 q.2.1.2 w' h3.1 h3.2 (by omega) (fun r hr => by have := hq.2 r hr; omega)
    have hnT2 : tb = true → 2 ≤ x.T.length ∧ x.T.length ≤ 9 := fun e => by
      have := (toB_n (by rw [htb]; exact e)).n
      rwa [hlen] at this
    have h31 : rg = true → ∀ w', Below w.heap.size w w' → Calls Try.prog 31 #[x.v, .slice o F.length c] w' fun e w2 => ∃ z : {z : TbG // z.D.length = x.T.length}, e = .returned z.1.v ∧ Below w'.heap.size w' w2 ∧ St w'.heap.size (TbIn w.heap.size (x.days.toNat + 1) z.1 (tabO x.d F)) w2 := fun e w' hb => by
      rw [e, Bool.and_eq_true] at hrg
      exact (rtable_ok x o c F w' (hI.below hb) (hF.below hb) (by rw [htb]; exact hrg.1) (by rw [hfb]; exact hrg.2)).mono fun e w2 ⟨z, e1, e2, e3⟩ => ⟨⟨z, (St.now e3).2⟩, e1, e2, e3.imp fun w3 h => h.1.mono hb.size⟩
    have hCs : rg = true → TbS x.T.length (x.days.toNat + 1) (90000000 * ((x.days.toNat + 1 : Nat) : Int)) (tabO x.d F) ∧ FeB F ∧ (1 ≤ x.days ∧ x.days ≤ 60) := fun e => by
      rw [e, Bool.and_eq_true] at hrg
      have hn := toB_n (show toB x.d = true by rw [htb]; exact hrg.1)
      have hFb := (feB_n (show feB x.T.length F = true by rw [hfb]; exact hrg.2)).2
      have := tabK_s hn hFb (x.days.toNat + 1)
      rw [hlen] at this
      exact ⟨this, hFb, hn.d⟩
    have h32' : rg = true → ∀ (z : TbG) w', TbIn w.heap.size (x.days.toNat + 1) z (tabO x.d F) w' → Below w.heap.size w w' → Calls Try.prog 32 #[.slice o F.length c, z.v] w' fun e w2 => e = .returned (iv (bdO F (tabO x.d F))) ∧ Below w'.heap.size w' w2 := fun e z w' hz hb => by
      obtain ⟨h1, h2, h3⟩ := hCs e
      have h4 := hnT2 (by rw [e, Bool.and_eq_true] at hrg; exact hrg.1)
      exact rb_of hz h1 (by omega) (by omega) (by omega) o c F (hF.below hb) (by omega) h2
    rw [htb] at h22
    rw [hfb] at h30
    clear h hI hB hsm htb hfb
    have h37 := fun w' : World => In_ok by_ (-3000000000000) 3000000000000 w'
    obtain ⟨bo', hbo'⟩ : ∃ b, b = bo := ⟨_, rfl⟩
    have erow := fun (w' : World) (hb : Below w.heap.size w w') k r (a : Addr) (ha : bo = some a) (hr : R[k]? = some r) => rd_ati (show Rd 1 Iw.cs (.slice (some a) R.length bc) R w' by rw [← ha]; exact hR.below hb) hr
    have hptr : 1 ≤ R.length → ∃ a, bo = some a := fun h1 => by obtain ⟨_, a, ha, _⟩ := hR.ptr h1; exact ⟨a, ha⟩
    clear hbo' bo'
    have hBBb : rg = true → -1100000000000 ≤ bdO F (tabO x.d F) ∧ bdO F (tabO x.d F) ≤ 1100000000000 := fun e => by
      obtain ⟨h1, h2, h3⟩ := hCs e
      have h4 := hnT2 (by rw [e, Bool.and_eq_true] at hrg; exact hrg.1)
      have h5 := h1.l
      obtain ⟨xs, hxs⟩ : ∃ xs, (tabO x.d F)[0]? = some xs := ⟨_, List.getElem?_eq_getElem (by omega)⟩
      have hxn := h1.n xs (List.mem_of_getElem? hxs)
      obtain ⟨v, hv⟩ : ∃ v, xs[0]? = some v := ⟨_, List.getElem?_eq_getElem (by omega)⟩
      have hvb := h1.b xs (List.mem_of_getElem? hxs) v (List.mem_of_getElem? hv)
      have hbd : bdO F (tabO x.d F) = smO F v := by unfold bdO tbO; rw [hxs, Option.getD_some, hv]; rfl
      have h6 := smO_bd F v h2
      rw [hbd]
      omega
    generalize hBB : bdO F (tabO x.d F) = BB at *
    generalize hCC : tabO x.d F = CC at *
    obtain ⟨days, shift, size, to, tc, T, lo, lc, L⟩ := x
    dsimp only at hnT2 hCs h31 h32' htl h30
    refine calls_valV env mixed Try.func9 has9 Try.ntmps9 [.agg #[iv days, iv shift, iv size, .slice to T.length tc, .slice lo L.length lc], .slice o F.length c, iv bound, .slice bo R.length bc, .bool own, iv row, iv at_, iv by_] (by simp) ?_
    refine VC.cutH env mixed 5 1 (fun q : Int × (Option Addr × Nat) × List Iw => [(1, .v (.slice o F.length c)), (2, .v (iv q.1)), (3, .v (.slice q.2.1.1 q.2.2.length q.2.1.2)), (8, .ptr 0 0), (18, .v (.bool rg))]) (fun _ => [(0, .cells [.v (iv days), .v (iv shift), .v (iv size), .v (.slice to T.length tc), .v (.slice lo L.length lc)] 25)]) (fun (q : Int × (Option Addr × Nat) × List Iw) w2 => Below w.heap.size w w2 ∧ (Rd 1 Iw.cs (.slice q.2.1.1 q.2.2.length q.2.1.2) q.2.2 w2 ∧ ∀ r ∈ q.2.2, Rd 1 iF (.slice r.o r.xs.length r.c) r.xs w2)) (fun q => q.2.2.length ≤ 12 ∧ ∀ r ∈ q.2.2, r.xs.length ≤ 70) (fun _ _ => ⟨rfl, rfl⟩) ?_ ?_
    · skip
      have hlook : ∀ w2, Below w.heap.size w w2 → True := fun _ _ => trivial
      have hFIN : (∀ r ∈ R, r.xs.length ≤ 70) → True := fun _ => trivial
      cases tb
      · obtain rfl : false = rg := hrg
        clear h30 h31 h32' hCs h43 h45 h44'
        repeat'
         conv => whnf
         first
          | refine zA ?_ | refine zB ?_ | refine zC ?_ | refine zD ?_ | refine zE ?_ | refine zF ?_ | refine zG ?_ | refine zH ?_ | refine zJ ?_ | refine zI ?_ | refine splT ?_ | refine splF ?_ | refine splNot ?_
          | ((first | refine splIn (fun hc => ?_) (fun hc => ?_) | refine splD (fun hc => ?_) (fun hc => ?_) | refine splE (fun hc => ?_) (fun hc => ?_) | refine splNE (fun hc => ?_) (fun hc => ?_)) <;> first | (exfalso; omega) | (exfalso; dsimp only at hc; omega) | skip)
          | ((with_reducible show CallEv _ _ 17 _ _ _ _ _); refine callE (k := 17) (fun β w' hbw => h17 w' (by repeat (first | exact hbw | replace hbw := hbw.1))) ?_)
          | ((with_reducible show CallEv _ _ 22 _ _ _ _ _); refine callE (k := 22) (fun β w' hbw => h22 w' (by repeat (first | exact hbw | replace hbw := hbw.1))) ?_)
          | ((with_reducible show CallEv _ _ 19 _ _ _ _ _); refine callE (k := 19) (fun β w' hbw => awake_ok w') ?_)
        all_goals first | (exfalso; omega) | exact ⟨fun β => rfl, fun w' h => (by repeat (first | exact h | replace h := h.1))⟩ | skip
        refine loopE (fun k : Nat => [(1, .v (.slice o F.length c)), (2, .v (iv bound)), (3, .v (.slice bo R.length bc)), (4, .v (.bool own)), (5, .v (iv row)), (6, .v (iv at_)), (7, .v (iv by_)), (8, .ptr 0 0), (17, .v (iv k))]) (fun _ => [(0, .cells [.v (iv days), .v (iv shift), .v (iv size), .v (.slice to T.length tc), .v (.slice lo L.length lc)] 25)]) (fun k => k ≤ R.length ∧ ∀ j < k, ∀ r, R[j]? = some r → r.xs.length ≤ 70) (fun k => R.length - k) 0 ⟨Nat.zero_le _, fun j hj => by omega⟩ ⟨rfl, rfl, rfl, rfl, rfl, rfl, rfl, rfl, rfl, trivial⟩ ⟨rfl, trivial⟩ (fun _ => ⟨rfl, rfl⟩) ?_
        intro k ⟨hk, hall⟩
        rcases Nat.lt_or_ge k R.length with hkl | hkl
        · obtain ⟨a, rfl⟩ := hptr (by omega)
          obtain ⟨⟨ro, rc, xs⟩, hr⟩ : ∃ r, R[k]? = some r := ⟨_, List.getElem?_eq_getElem hkl⟩
          have e1 := fun (w' : World) hb => erow w' hb k _ a rfl hr
          have hxn := hRn _ (List.mem_of_getElem? hr)
          dsimp only at hxn
          by_cases hx : xs.length ≤ 70
          · have hnx : ∀ j < k + 1, ∀ r, R[j]? = some r → r.xs.length ≤ 70 := fun j hj r hr2 => by
              rcases (by omega : j < k ∨ j = k) with hj | rfl
              · exact hall j hj r hr2
              · rw [hr, Option.some.injEq] at hr2; subst hr2; exact hx
            repeat'
             conv => whnf
             first
              | refine zA ?_ | refine zB ?_ | refine zC ?_ | refine zD ?_ | refine zE ?_ | refine zF ?_ | refine zG ?_ | refine zH ?_ | refine zJ ?_ | refine zI ?_ | refine splT ?_ | refine splF ?_ | refine splNot ?_
              | ((first | refine splIn (fun hc => ?_) (fun hc => ?_) | refine splD (fun hc => ?_) (fun hc => ?_) | refine splE (fun hc => ?_) (fun hc => ?_) | refine splNE (fun hc => ?_) (fun hc => ?_)) <;> first | (exfalso; omega) | (exfalso; dsimp only at hc; omega) | skip)
              | refine Exists.intro (α := List Value) [.slice ro xs.length rc] ⟨⟨rfl, fun w' hw' => e1 w' hw'⟩, ?_⟩
              | ((with_reducible show CallEv _ _ 19 _ _ _ _ _); refine callE (k := 19) (fun β w' hbw => awake_ok w') ?_)
            all_goals first | (exfalso; omega) | exact ⟨k + 1, ⟨by omega, hnx⟩, by omega, Ent.weak rfl ⟨rfl, rfl, rfl, rfl, rfl, rfl, rfl, rfl, rfl, trivial⟩ ⟨rfl, trivial⟩ fun _ h => h⟩
          · skip
            repeat'
             conv => whnf
             first
              | refine zA ?_ | refine zB ?_ | refine zC ?_ | refine zD ?_ | refine zE ?_ | refine zF ?_ | refine zG ?_ | refine zH ?_ | refine zJ ?_ | refine zI ?_ | refine splT ?_ | refine splF ?_ | refine splNot ?_
              | ((first | refine splIn (fun hc => ?_) (fun hc => ?_) | refine splD (fun hc => ?_) (fun hc => ?_) | refine splE (fun hc => ?_) (fun hc => ?_) | refine splNE (fun hc => ?_) (fun hc => ?_)) <;> first | (exfalso; omega) | (exfalso; dsimp only at hc; omega) | skip)
              | refine Exists.intro (α := List Value) [.slice ro xs.length rc] ⟨⟨rfl, fun w' hw' => e1 w' hw'⟩, ?_⟩
              | ((with_reducible show CallEv _ _ 19 _ _ _ _ _); refine callE (k := 19) (fun β w' hbw => awake_ok w') ?_)
            all_goals first | (exfalso; omega) | exact ⟨fun β => rfl, fun w' h => (by repeat (first | exact h | replace h := h.1))⟩
        · obtain rfl : k = R.length := by omega
          cases own
          all_goals skip
          repeat'
           conv => whnf
           first
            | refine zA ?_ | refine zB ?_ | refine zC ?_ | refine zD ?_ | refine zE ?_ | refine zF ?_ | refine zG ?_ | refine zH ?_ | refine zJ ?_ | refine zI ?_ | refine splT ?_ | refine splF ?_ | refine splNot ?_
            | ((first | refine splIn (fun hc => ?_) (fun hc => ?_) | refine splD (fun hc => ?_) (fun hc => ?_) | refine splE (fun hc => ?_) (fun hc => ?_) | refine splNE (fun hc => ?_) (fun hc => ?_)) <;> first | (exfalso; omega) | (exfalso; dsimp only at hc; omega) | skip)
            | ((with_reducible show CallEv _ _ 22 _ _ _ _ _); refine callE (k := 22) (fun β w' hbw => h22 w' (by repeat (first | exact hbw | replace hbw := hbw.1))) ?_)
          all_goals first | (exfalso; omega) | exact ⟨rfl, (bound, (bo, bc), R), ⟨by omega, fun r hr => by obtain ⟨j, hj⟩ := List.mem_iff_getElem?.1 hr; exact hall j (List.getElem?_eq_some_iff.1 hj).1 r hj⟩, Ent.weak rfl ⟨rfl, rfl, rfl, rfl, rfl, trivial⟩ ⟨rfl, trivial⟩ fun w2 h => ⟨h, hR.below h, fun r hr => (hRr r hr).below h⟩⟩
      · have hnT3 := hnT2 rfl
        have h30' := h30 (by omega)
        clear h30
        cases fb
        · obtain rfl : false = rg := hrg
          clear h31 h32' hCs h43 h45 h44'
          repeat'
           conv => whnf
           first
            | refine zA ?_ | refine zB ?_ | refine zC ?_ | refine zD ?_ | refine zE ?_ | refine zF ?_ | refine zG ?_ | refine zH ?_ | refine zJ ?_ | refine zI ?_ | refine splT ?_ | refine splF ?_ | refine splNot ?_
            | ((first | refine splIn (fun hc => ?_) (fun hc => ?_) | refine splD (fun hc => ?_) (fun hc => ?_) | refine splE (fun hc => ?_) (fun hc => ?_) | refine splNE (fun hc => ?_) (fun hc => ?_)) <;> first | (exfalso; omega) | (exfalso; dsimp only at hc; omega) | skip)
            | ((with_reducible show CallEv _ _ 17 _ _ _ _ _); refine callE (k := 17) (fun β w' hbw => h17 w' (by repeat (first | exact hbw | replace hbw := hbw.1))) ?_)
            | ((with_reducible show CallEv _ _ 22 _ _ _ _ _); refine callE (k := 22) (fun β w' hbw => h22 w' (by repeat (first | exact hbw | replace hbw := hbw.1))) ?_)
            | ((with_reducible show CallEv _ _ 19 _ _ _ _ _); refine callE (k := 19) (fun β w' hbw => awake_ok w') ?_)
          all_goals first | (exfalso; omega) | exact ⟨fun β => rfl, fun w' h => (by repeat (first | exact h | replace h := h.1))⟩ | skip
          refine loopE (fun k : Nat => [(1, .v (.slice o F.length c)), (2, .v (iv bound)), (3, .v (.slice bo R.length bc)), (4, .v (.bool own)), (5, .v (iv row)), (6, .v (iv at_)), (7, .v (iv by_)), (8, .ptr 0 0), (17, .v (iv k))]) (fun _ => [(0, .cells [.v (iv days), .v (iv shift), .v (iv size), .v (.slice to T.length tc), .v (.slice lo L.length lc)] 25)]) (fun k => k ≤ R.length ∧ ∀ j < k, ∀ r, R[j]? = some r → r.xs.length ≤ 70) (fun k => R.length - k) 0 ⟨Nat.zero_le _, fun j hj => by omega⟩ ⟨rfl, rfl, rfl, rfl, rfl, rfl, rfl, rfl, rfl, trivial⟩ ⟨rfl, trivial⟩ (fun _ => ⟨rfl, rfl⟩) ?_
          intro k ⟨hk, hall⟩
          rcases Nat.lt_or_ge k R.length with hkl | hkl
          · obtain ⟨a, rfl⟩ := hptr (by omega)
            obtain ⟨⟨ro, rc, xs⟩, hr⟩ : ∃ r, R[k]? = some r := ⟨_, List.getElem?_eq_getElem hkl⟩
            have e1 := fun (w' : World) hb => erow w' hb k _ a rfl hr
            have hxn := hRn _ (List.mem_of_getElem? hr)
            dsimp only at hxn
            by_cases hx : xs.length ≤ 70
            · have hnx : ∀ j < k + 1, ∀ r, R[j]? = some r → r.xs.length ≤ 70 := fun j hj r hr2 => by
                rcases (by omega : j < k ∨ j = k) with hj | rfl
                · exact hall j hj r hr2
                · rw [hr, Option.some.injEq] at hr2; subst hr2; exact hx
              repeat'
               conv => whnf
               first
                | refine zA ?_ | refine zB ?_ | refine zC ?_ | refine zD ?_ | refine zE ?_ | refine zF ?_ | refine zG ?_ | refine zH ?_ | refine zJ ?_ | refine zI ?_ | refine splT ?_ | refine splF ?_ | refine splNot ?_
                | ((first | refine splIn (fun hc => ?_) (fun hc => ?_) | refine splD (fun hc => ?_) (fun hc => ?_) | refine splE (fun hc => ?_) (fun hc => ?_) | refine splNE (fun hc => ?_) (fun hc => ?_)) <;> first | (exfalso; omega) | (exfalso; dsimp only at hc; omega) | skip)
                | refine Exists.intro (α := List Value) [.slice ro xs.length rc] ⟨⟨rfl, fun w' hw' => e1 w' hw'⟩, ?_⟩
                | ((with_reducible show CallEv _ _ 19 _ _ _ _ _); refine callE (k := 19) (fun β w' hbw => awake_ok w') ?_)
              all_goals first | (exfalso; omega) | exact ⟨k + 1, ⟨by omega, hnx⟩, by omega, Ent.weak rfl ⟨rfl, rfl, rfl, rfl, rfl, rfl, rfl, rfl, rfl, trivial⟩ ⟨rfl, trivial⟩ fun _ h => h⟩
            · skip
              repeat'
               conv => whnf
               first
                | refine zA ?_ | refine zB ?_ | refine zC ?_ | refine zD ?_ | refine zE ?_ | refine zF ?_ | refine zG ?_ | refine zH ?_ | refine zJ ?_ | refine zI ?_ | refine splT ?_ | refine splF ?_ | refine splNot ?_
                | ((first | refine splIn (fun hc => ?_) (fun hc => ?_) | refine splD (fun hc => ?_) (fun hc => ?_) | refine splE (fun hc => ?_) (fun hc => ?_) | refine splNE (fun hc => ?_) (fun hc => ?_)) <;> first | (exfalso; omega) | (exfalso; dsimp only at hc; omega) | skip)
                | refine Exists.intro (α := List Value) [.slice ro xs.length rc] ⟨⟨rfl, fun w' hw' => e1 w' hw'⟩, ?_⟩
                | ((with_reducible show CallEv _ _ 19 _ _ _ _ _); refine callE (k := 19) (fun β w' hbw => awake_ok w') ?_)
              all_goals first | (exfalso; omega) | exact ⟨fun β => rfl, fun w' h => (by repeat (first | exact h | replace h := h.1))⟩
          · obtain rfl : k = R.length := by omega
            cases own
            all_goals skip
            repeat'
             conv => whnf
             first
              | refine zA ?_ | refine zB ?_ | refine zC ?_ | refine zD ?_ | refine zE ?_ | refine zF ?_ | refine zG ?_ | refine zH ?_ | refine zJ ?_ | refine zI ?_ | refine splT ?_ | refine splF ?_ | refine splNot ?_
              | ((first | refine splIn (fun hc => ?_) (fun hc => ?_) | refine splD (fun hc => ?_) (fun hc => ?_) | refine splE (fun hc => ?_) (fun hc => ?_) | refine splNE (fun hc => ?_) (fun hc => ?_)) <;> first | (exfalso; omega) | (exfalso; dsimp only at hc; omega) | skip)
              | ((with_reducible show CallEv _ _ 22 _ _ _ _ _); refine callE (k := 22) (fun β w' hbw => h22 w' (by repeat (first | exact hbw | replace hbw := hbw.1))) ?_)
              | ((with_reducible show CallEv _ _ 30 _ _ _ _ _); refine callE (k := 30) (fun β w' hbw => h30' w' (by repeat (first | exact hbw | replace hbw := hbw.1))) ?_)
            all_goals first | (exfalso; omega) | exact ⟨rfl, (bound, (bo, bc), R), ⟨by omega, fun r hr => by obtain ⟨j, hj⟩ := List.mem_iff_getElem?.1 hr; exact hall j (List.getElem?_eq_some_iff.1 hj).1 r hj⟩, Ent.weak rfl ⟨rfl, rfl, rfl, rfl, rfl, trivial⟩ ⟨rfl, trivial⟩ fun w2 h => ⟨h, hR.below h, fun r hr => (hRr r hr).below h⟩⟩
        · obtain rfl : true = rg := hrg
          have h31' := h31 rfl
          have h32 := h32' rfl
          obtain ⟨hC1, hFb, hday⟩ := hCs rfl
          clear h31 h32' hCs h43 h45 h44'
          repeat'
           conv => whnf
           first
            | refine zA ?_ | refine zB ?_ | refine zC ?_ | refine zD ?_ | refine zE ?_ | refine zF ?_ | refine zG ?_ | refine zH ?_ | refine zJ ?_ | refine zI ?_ | refine splT ?_ | refine splF ?_ | refine splNot ?_
            | ((first | refine splIn (fun hc => ?_) (fun hc => ?_) | refine splD (fun hc => ?_) (fun hc => ?_) | refine splE (fun hc => ?_) (fun hc => ?_) | refine splNE (fun hc => ?_) (fun hc => ?_)) <;> first | (exfalso; omega) | (exfalso; dsimp only at hc; omega) | skip)
            | ((with_reducible show CallEv _ _ 17 _ _ _ _ _); refine callE (k := 17) (fun β w' hbw => h17 w' (by repeat (first | exact hbw | replace hbw := hbw.1))) ?_)
            | ((with_reducible show CallEv _ _ 22 _ _ _ _ _); refine callE (k := 22) (fun β w' hbw => h22 w' (by repeat (first | exact hbw | replace hbw := hbw.1))) ?_)
            | ((with_reducible show CallEv _ _ 19 _ _ _ _ _); refine callE (k := 19) (fun β w' hbw => awake_ok w') ?_)
          all_goals first | (exfalso; omega) | exact ⟨fun β => rfl, fun w' h => (by repeat (first | exact h | replace h := h.1))⟩ | skip
          refine loopE (fun k : Nat => [(1, .v (.slice o F.length c)), (2, .v (iv bound)), (3, .v (.slice bo R.length bc)), (4, .v (.bool own)), (5, .v (iv row)), (6, .v (iv at_)), (7, .v (iv by_)), (8, .ptr 0 0), (17, .v (iv k))]) (fun _ => [(0, .cells [.v (iv days), .v (iv shift), .v (iv size), .v (.slice to T.length tc), .v (.slice lo L.length lc)] 25)]) (fun k => k ≤ R.length ∧ ∀ j < k, ∀ r, R[j]? = some r → r.xs.length ≤ 70) (fun k => R.length - k) 0 ⟨Nat.zero_le _, fun j hj => by omega⟩ ⟨rfl, rfl, rfl, rfl, rfl, rfl, rfl, rfl, rfl, trivial⟩ ⟨rfl, trivial⟩ (fun _ => ⟨rfl, rfl⟩) ?_
          intro k ⟨hk, hall⟩
          rcases Nat.lt_or_ge k R.length with hkl | hkl
          · obtain ⟨a, rfl⟩ := hptr (by omega)
            obtain ⟨⟨ro, rc, xs⟩, hr⟩ : ∃ r, R[k]? = some r := ⟨_, List.getElem?_eq_getElem hkl⟩
            have e1 := fun (w' : World) hb => erow w' hb k _ a rfl hr
            have hxn := hRn _ (List.mem_of_getElem? hr)
            dsimp only at hxn
            by_cases hx : xs.length ≤ 70
            · have hnx : ∀ j < k + 1, ∀ r, R[j]? = some r → r.xs.length ≤ 70 := fun j hj r hr2 => by
                rcases (by omega : j < k ∨ j = k) with hj | rfl
                · exact hall j hj r hr2
                · rw [hr, Option.some.injEq] at hr2; subst hr2; exact hx
              repeat'
               conv => whnf
               first
                | refine zA ?_ | refine zB ?_ | refine zC ?_ | refine zD ?_ | refine zE ?_ | refine zF ?_ | refine zG ?_ | refine zH ?_ | refine zJ ?_ | refine zI ?_ | refine splT ?_ | refine splF ?_ | refine splNot ?_
                | ((first | refine splIn (fun hc => ?_) (fun hc => ?_) | refine splD (fun hc => ?_) (fun hc => ?_) | refine splE (fun hc => ?_) (fun hc => ?_) | refine splNE (fun hc => ?_) (fun hc => ?_)) <;> first | (exfalso; omega) | (exfalso; dsimp only at hc; omega) | skip)
                | refine Exists.intro (α := List Value) [.slice ro xs.length rc] ⟨⟨rfl, fun w' hw' => e1 w' hw'⟩, ?_⟩
                | ((with_reducible show CallEv _ _ 19 _ _ _ _ _); refine callE (k := 19) (fun β w' hbw => awake_ok w') ?_)
              all_goals first | (exfalso; omega) | exact ⟨k + 1, ⟨by omega, hnx⟩, by omega, Ent.weak rfl ⟨rfl, rfl, rfl, rfl, rfl, rfl, rfl, rfl, rfl, trivial⟩ ⟨rfl, trivial⟩ fun _ h => h⟩
            · skip
              repeat'
               conv => whnf
               first
                | refine zA ?_ | refine zB ?_ | refine zC ?_ | refine zD ?_ | refine zE ?_ | refine zF ?_ | refine zG ?_ | refine zH ?_ | refine zJ ?_ | refine zI ?_ | refine splT ?_ | refine splF ?_ | refine splNot ?_
                | ((first | refine splIn (fun hc => ?_) (fun hc => ?_) | refine splD (fun hc => ?_) (fun hc => ?_) | refine splE (fun hc => ?_) (fun hc => ?_) | refine splNE (fun hc => ?_) (fun hc => ?_)) <;> first | (exfalso; omega) | (exfalso; dsimp only at hc; omega) | skip)
                | refine Exists.intro (α := List Value) [.slice ro xs.length rc] ⟨⟨rfl, fun w' hw' => e1 w' hw'⟩, ?_⟩
                | ((with_reducible show CallEv _ _ 19 _ _ _ _ _); refine callE (k := 19) (fun β w' hbw => awake_ok w') ?_)
              all_goals first | (exfalso; omega) | exact ⟨fun β => rfl, fun w' h => (by repeat (first | exact h | replace h := h.1))⟩
          · obtain rfl : k = R.length := by omega
            cases own with
            | false =>
              repeat'
               conv => whnf
               first
                | refine zA ?_ | refine zB ?_ | refine zC ?_ | refine zD ?_ | refine zE ?_ | refine zF ?_ | refine zG ?_ | refine zH ?_ | refine zJ ?_ | refine zI ?_ | refine splT ?_ | refine splF ?_ | refine splNot ?_
                | ((first | refine splIn (fun hc => ?_) (fun hc => ?_) | refine splD (fun hc => ?_) (fun hc => ?_) | refine splE (fun hc => ?_) (fun hc => ?_) | refine splNE (fun hc => ?_) (fun hc => ?_)) <;> first | (exfalso; omega) | (exfalso; dsimp only at hc; omega) | skip)
                | ((with_reducible show CallEv _ _ 22 _ _ _ _ _); refine callE (k := 22) (fun β w' hbw => h22 w' (by repeat (first | exact hbw | replace hbw := hbw.1))) ?_)
                | ((with_reducible show CallEv _ _ 30 _ _ _ _ _); refine callE (k := 30) (fun β w' hbw => h30' w' (by repeat (first | exact hbw | replace hbw := hbw.1))) ?_)
              all_goals first | (exfalso; omega) | exact ⟨rfl, (bound, (bo, bc), R), ⟨by omega, fun r hr => by obtain ⟨j, hj⟩ := List.mem_iff_getElem?.1 hr; exact hall j (List.getElem?_eq_some_iff.1 hj).1 r hj⟩, Ent.weak rfl ⟨rfl, rfl, rfl, rfl, rfl, trivial⟩ ⟨rfl, trivial⟩ fun w2 h => ⟨h, hR.below h, fun r hr => (hRr r hr).below h⟩⟩
            | true =>
              let qz : Int → List (List Int) → {z : TbG // z.D.length = T.length} → Int × (Option Addr × Nat) × List Iw := fun bd C z => (bd, (some ⟨z.1.o, 0, none⟩, z.1.c), z.1.rw C)
              have hql : ∀ (C : List (List Int)) (z : {z : TbG // z.D.length = T.length}), C.length = T.length → (z.1.rw C).length = z.1.D.length := fun C z h => TbG.rw_len (by rw [h, z.2])
              have hsl : ∀ (bd : Int) (C : List (List Int)) (z : {z : TbG // z.D.length = T.length}), C.length = T.length → (some (SV.v z.1.v) : Option SV) = some (SV.v (.slice (qz bd C z).2.1.1 (qz bd C z).2.2.length (qz bd C z).2.1.2)) := fun bd C z h => by
                show some (SV.v (.slice _ z.1.D.length _)) = some (SV.v (.slice _ (z.1.rw C).length _))
                rw [hql C z h]
              have hpre : ∀ (bd : Int) (C : List (List Int)) (z : {z : TbG // z.D.length = T.length}), C.length = T.length → (∀ r ∈ C, r.length = days.toNat + 1) → (qz bd C z).2.2.length ≤ 12 ∧ ∀ r ∈ (qz bd C z).2.2, r.xs.length ≤ 70 := fun bd C z h1 h2 => ⟨by (show (z.1.rw C).length ≤ 12); rw [hql C z h1, z.2]; omega, fun r hr => by
                obtain ⟨i, p, zs, e1, e2, rfl⟩ := TbG.rw_mem hr
                have := h2 zs (List.mem_of_getElem? e2)
                show zs.length ≤ 70
                omega⟩
              have hmem : ∀ (bd : Int) (C : List (List Int)) (z : {z : TbG // z.D.length = T.length}) w2, C.length = T.length → Below w.heap.size w w2 → TbIn w.heap.size (days.toNat + 1) z.1 C w2 → Below w.heap.size w w2 ∧ (Rd 1 Iw.cs (.slice (qz bd C z).2.1.1 (qz bd C z).2.2.length (qz bd C z).2.1.2) (qz bd C z).2.2 w2 ∧ ∀ r ∈ (qz bd C z).2.2, Rd 1 iF (.slice r.o r.xs.length r.c) r.xs w2) := fun bd C z w2 h1 hb h2 => ⟨hb, by
                show Rd 1 Iw.cs (.slice _ (z.1.rw C).length _) (z.1.rw C) w2
                rw [hql C z h1]
                exact h2.out, h2.row⟩
              have hbb : -1100000000000 ≤ BB ∧ BB ≤ 1100000000000 := hBBb rfl
              have hCl := hC1.l
              have hCr := hC1.n
              by_cases hby : -3000000000000 ≤ by_ ∧ by_ ≤ 3000000000000
              · by_cases hrow : 0 ≤ row ∧ row < T.length
                · obtain ⟨rn, rfl⟩ : ∃ rn : Nat, row = rn := ⟨row.toNat, by omega⟩
                  obtain ⟨xs0, hxs0⟩ : ∃ xs, CC[rn]? = some xs := ⟨_, List.getElem?_eq_getElem (by omega)⟩
                  have hx0n := hCr xs0 (List.mem_of_getElem? hxs0)
                  let pz : {z : TbG // z.D.length = T.length} → Nat × Nat := fun z => (z.1.D[rn]?).getD (0, 0)
                  have hpz : ∀ z : {z : TbG // z.D.length = T.length}, z.1.D[rn]? = some (pz z) := fun z => by
                    obtain ⟨p, hp⟩ : ∃ p, z.1.D[rn]? = some p := ⟨_, List.getElem?_eq_getElem (by rw [z.2]; omega)⟩
                    show _ = some ((z.1.D[rn]?).getD (0, 0))
                    rw [hp]; rfl
                  have er : ∀ (z : {z : TbG // z.D.length = T.length}) w2, TbIn w.heap.size (days.toNat + 1) z.1 CC w2 → ∀ q v, [Value.slice (some ⟨(pz z).1, 0, none⟩) (days.toNat + 1) (pz z).2][q]? = some v → w2.cell? (((⟨z.1.o, 0, none⟩ : Addr).add ((rn : Int).toNat * 1)).add q) = some v := fun z w2 hw2 => by
                    have := rd_ati hw2.out (TbG.rw_at (hpz z) hxs0)
                    rw [show Iw.cs ⟨some ⟨(pz z).1, 0, none⟩, (pz z).2, xs0⟩ = [Value.slice (some ⟨(pz z).1, 0, none⟩) (days.toNat + 1) (pz z).2] from by show [Value.slice _ xs0.length _] = _; rw [hx0n]] at this
                    exact this
                  have hz2 : ∀ z : {z : TbG // z.D.length = T.length}, z.1.D.length = T.length := fun z => z.2
                  by_cases hat : 0 ≤ at_ ∧ at_ < (days.toNat + 1 : Nat)
                  · obtain ⟨an, rfl⟩ : ∃ an : Nat, at_ = an := ⟨at_.toNat, by omega⟩
                    obtain ⟨v0, hv0⟩ : ∃ v, xs0[an]? = some v := ⟨_, List.getElem?_eq_getElem (by omega)⟩
                    have hv0b := hC1.b xs0 (List.mem_of_getElem? hxs0) v0 (List.mem_of_getElem? hv0)
                    have ev : ∀ (z : {z : TbG // z.D.length = T.length}) w2, TbIn w.heap.size (days.toNat + 1) z.1 CC w2 → ∀ q v, [iv v0][q]? = some v → w2.cell? (((⟨(pz z).1, 0, none⟩ : Addr).add ((an : Int).toNat * 1)).add q) = some v := fun z w2 hw2 => by
                      have := hw2.row _ (List.mem_of_getElem? (TbG.rw_at (hpz z) hxs0))
                      exact rd_ati this hv0
                    have hspt : ∀ (z : {z : TbG // z.D.length = T.length}) q, ((⟨(pz z).1, 0, none⟩ : Addr).add q).spot = none := fun z q => by rw [own_add]
                    have hax : ∀ z : {z : TbG // z.D.length = T.length}, (⟨(pz z).1, 0, none⟩ : Addr).add ((an : Int).toNat * 1) = ⟨(pz z).1, an, none⟩ := fun z => by rw [own_add, Int.toNat_natCast, Nat.mul_one, Nat.zero_add]
                    have hset : ∀ (z : {z : TbG // z.D.length = T.length}) w2, Below w.heap.size w w2 ∧ TbIn w.heap.size (days.toNat + 1) z.1 CC w2 → Below w.heap.size w (w2.setCell ((⟨(pz z).1, 0, none⟩ : Addr).add ((an : Int).toNat * 1)) (iv (v0 + by_))) ∧ TbIn w.heap.size (days.toNat + 1) z.1 (CC.set rn (xs0.set an (v0 + by_))) (w2.setCell ((⟨(pz z).1, 0, none⟩ : Addr).add ((an : Int).toNat * 1)) (iv (v0 + by_))) := fun z w2 hw2 => by
                      rw [hax]
                      exact ⟨below_set hw2.1 (hw2.2.a _ (List.mem_of_getElem? (hpz z))).1, hw2.2.set (hpz z) hxs0 (by omega)⟩
                    have hatc : ∀ (z : {z : TbG // z.D.length = T.length}) w2, Below w.heap.size w w2 ∧ TbIn w.heap.size (days.toNat + 1) z.1 CC w2 → (∃ cs ty fr, w2.heap[((⟨(pz z).1, 0, none⟩ : Addr).add ((an : Int).toNat * 1)).block]? = some (.cells cs ty fr) ∧ ((⟨(pz z).1, 0, none⟩ : Addr).add ((an : Int).toNat * 1)).off < cs.size) ∧ w2.frozen? ((⟨(pz z).1, 0, none⟩ : Addr).add ((an : Int).toNat * 1)) = false := fun z w2 hw2 => by
                      rw [hax]
                      exact hw2.2.at (hpz z) hxs0 (show an < days.toNat + 1 by omega)
                    have hl2 : (CC.set rn (xs0.set an (v0 + by_))).length = T.length := by rw [List.length_set]; exact hCl
                    have hr2 : ∀ r ∈ CC.set rn (xs0.set an (v0 + by_)), r.length = days.toNat + 1 := fun r hr => by
                      rcases List.mem_or_eq_of_mem_set hr with hr | rfl
                      · exact hCr r hr
                      · rw [List.length_set]; exact hx0n
                    repeat'
                     conv => whnf
                     first
                      | refine zA ?_ | refine zB ?_ | refine zC ?_ | refine zD ?_ | refine zE ?_ | refine zF ?_ | refine zG ?_ | refine zH ?_ | refine zJ ?_ | refine zI ?_ | refine splT ?_ | refine splF ?_ | refine splNot ?_
                      | ((first | refine splIn (fun hc => ?_) (fun hc => ?_) | refine splD (fun hc => ?_) (fun hc => ?_) | refine splE (fun hc => ?_) (fun hc => ?_) | refine splNE (fun hc => ?_) (fun hc => ?_)) <;> first | (exfalso; omega) | (exfalso; dsimp only at hc; omega) | skip)
                      | ((with_reducible show CallEv _ _ 22 _ _ _ _ _); refine callE (k := 22) (fun β w' hbw => h22 w' (by repeat (first | exact hbw | replace hbw := hbw.1))) ?_)
                      | ((with_reducible show CallEv _ _ 30 _ _ _ _ _); refine callE (k := 30) (fun β w' hbw => h30' w' (by repeat (first | exact hbw | replace hbw := hbw.1))) ?_)
                      | ((with_reducible show CallEv _ _ 31 _ _ _ _ _); refine callF [] (fun z : {z : TbG // z.D.length = T.length} => z.1.v) (fun z w2 => TbIn w.heap.size (days.toNat + 1) z.1 CC w2) (fun β w' _ hbw => h31' w' (by repeat (first | exact hbw | replace hbw := hbw.1))) ?_; intro z)
                      | ((with_reducible show CallEv _ _ 32 _ _ _ _ _); refine callE (k := 32) (fun β w' hbw => h32 z.1 w' hbw.2 (by repeat (first | exact hbw | replace hbw := hbw.1))) ?_)
                      | ((with_reducible show CallEv _ _ 37 _ _ _ _ _); refine callE (k := 37) (fun β w' hbw => h37 w') ?_)
                      | refine Exists.intro (α := List Value) [.slice (some ⟨(pz z).1, 0, none⟩) (days.toNat + 1) (pz z).2] ⟨⟨rfl, fun w' hw' => er z w' hw'.2⟩, ?_⟩
                      | refine Exists.intro (α := List Value) [iv v0] ⟨⟨rfl, fun w' hw' => ev z w' hw'.2⟩, ?_⟩
                      | refine stF env rfl rfl rfl rfl rfl rfl (hspt z _) (fun w2 => Below w.heap.size w w2 ∧ TbIn w.heap.size (days.toNat + 1) z.1 (CC.set rn (xs0.set an (v0 + by_))) w2) (fun w' hw' => hatc z w' hw') (fun w' hw' => hset z w' hw') ?_
                    all_goals first | (exfalso; omega) | (exfalso; have := hz2 (by assumption); omega) | exact ⟨rfl, qz BB (CC.set rn (xs0.set an (v0 + by_))) z, hpre BB (CC.set rn (xs0.set an (v0 + by_))) z hl2 hr2, Ent.weak rfl ⟨rfl, rfl, hsl BB (CC.set rn (xs0.set an (v0 + by_))) z hl2, rfl, rfl, trivial⟩ ⟨rfl, trivial⟩ fun w2 h => hmem BB (CC.set rn (xs0.set an (v0 + by_))) z w2 hl2 h.1 h.2⟩
                  · skip
                    repeat'
                     conv => whnf
                     first
                      | refine zA ?_ | refine zB ?_ | refine zC ?_ | refine zD ?_ | refine zE ?_ | refine zF ?_ | refine zG ?_ | refine zH ?_ | refine zJ ?_ | refine zI ?_ | refine splT ?_ | refine splF ?_ | refine splNot ?_
                      | ((first | refine splIn (fun hc => ?_) (fun hc => ?_) | refine splD (fun hc => ?_) (fun hc => ?_) | refine splE (fun hc => ?_) (fun hc => ?_) | refine splNE (fun hc => ?_) (fun hc => ?_)) <;> first | (exfalso; omega) | (exfalso; dsimp only at hc; omega) | skip)
                      | ((with_reducible show CallEv _ _ 22 _ _ _ _ _); refine callE (k := 22) (fun β w' hbw => h22 w' (by repeat (first | exact hbw | replace hbw := hbw.1))) ?_)
                      | ((with_reducible show CallEv _ _ 30 _ _ _ _ _); refine callE (k := 30) (fun β w' hbw => h30' w' (by repeat (first | exact hbw | replace hbw := hbw.1))) ?_)
                      | ((with_reducible show CallEv _ _ 31 _ _ _ _ _); refine callF [] (fun z : {z : TbG // z.D.length = T.length} => z.1.v) (fun z w2 => TbIn w.heap.size (days.toNat + 1) z.1 CC w2) (fun β w' _ hbw => h31' w' (by repeat (first | exact hbw | replace hbw := hbw.1))) ?_; intro z)
                      | ((with_reducible show CallEv _ _ 32 _ _ _ _ _); refine callE (k := 32) (fun β w' hbw => h32 z.1 w' hbw.2 (by repeat (first | exact hbw | replace hbw := hbw.1))) ?_)
                      | ((with_reducible show CallEv _ _ 37 _ _ _ _ _); refine callE (k := 37) (fun β w' hbw => h37 w') ?_)
                      | refine Exists.intro (α := List Value) [.slice (some ⟨(pz z).1, 0, none⟩) (days.toNat + 1) (pz z).2] ⟨⟨rfl, fun w' hw' => er z w' hw'.2⟩, ?_⟩
                    all_goals first | (exfalso; omega) | (exfalso; have := hz2 (by assumption); omega) | exact ⟨rfl, qz BB CC z, hpre BB CC z hCl hCr, Ent.weak rfl ⟨rfl, rfl, hsl BB CC z hCl, rfl, rfl, trivial⟩ ⟨rfl, trivial⟩ fun w2 h => hmem BB CC z w2 hCl h.1 h.2⟩
                · have hz2 : ∀ z : {z : TbG // z.D.length = T.length}, z.1.D.length = T.length := fun z => z.2
                  by_cases hm2 : row = -2
                  · subst hm2
                    repeat'
                     conv => whnf
                     first
                      | refine zA ?_ | refine zB ?_ | refine zC ?_ | refine zD ?_ | refine zE ?_ | refine zF ?_ | refine zG ?_ | refine zH ?_ | refine zJ ?_ | refine zI ?_ | refine splT ?_ | refine splF ?_ | refine splNot ?_
                      | ((first | refine splIn (fun hc => ?_) (fun hc => ?_) | refine splD (fun hc => ?_) (fun hc => ?_) | refine splE (fun hc => ?_) (fun hc => ?_) | refine splNE (fun hc => ?_) (fun hc => ?_)) <;> first | (exfalso; omega) | (exfalso; dsimp only at hc; omega) | skip)
                      | ((with_reducible show CallEv _ _ 22 _ _ _ _ _); refine callE (k := 22) (fun β w' hbw => h22 w' (by repeat (first | exact hbw | replace hbw := hbw.1))) ?_)
                      | ((with_reducible show CallEv _ _ 30 _ _ _ _ _); refine callE (k := 30) (fun β w' hbw => h30' w' (by repeat (first | exact hbw | replace hbw := hbw.1))) ?_)
                      | ((with_reducible show CallEv _ _ 31 _ _ _ _ _); refine callF [] (fun z : {z : TbG // z.D.length = T.length} => z.1.v) (fun z w2 => TbIn w.heap.size (days.toNat + 1) z.1 CC w2) (fun β w' _ hbw => h31' w' (by repeat (first | exact hbw | replace hbw := hbw.1))) ?_; intro z)
                      | ((with_reducible show CallEv _ _ 32 _ _ _ _ _); refine callE (k := 32) (fun β w' hbw => h32 z.1 w' hbw.2 (by repeat (first | exact hbw | replace hbw := hbw.1))) ?_)
                      | ((with_reducible show CallEv _ _ 37 _ _ _ _ _); refine callE (k := 37) (fun β w' hbw => h37 w') ?_)
                    all_goals first | (exfalso; omega) | (exfalso; have := hz2 (by assumption); omega) | exact ⟨rfl, qz (BB + by_) CC z, hpre (BB + by_) CC z hCl hCr, Ent.weak rfl ⟨rfl, rfl, hsl (BB + by_) CC z hCl, rfl, rfl, trivial⟩ ⟨rfl, trivial⟩ fun w2 h => hmem (BB + by_) CC z w2 hCl h.1 h.2⟩
                  · skip
                    repeat'
                     conv => whnf
                     first
                      | refine zA ?_ | refine zB ?_ | refine zC ?_ | refine zD ?_ | refine zE ?_ | refine zF ?_ | refine zG ?_ | refine zH ?_ | refine zJ ?_ | refine zI ?_ | refine splT ?_ | refine splF ?_ | refine splNot ?_
                      | ((first | refine splIn (fun hc => ?_) (fun hc => ?_) | refine splD (fun hc => ?_) (fun hc => ?_) | refine splE (fun hc => ?_) (fun hc => ?_) | refine splNE (fun hc => ?_) (fun hc => ?_)) <;> first | (exfalso; omega) | (exfalso; dsimp only at hc; omega) | skip)
                      | ((with_reducible show CallEv _ _ 22 _ _ _ _ _); refine callE (k := 22) (fun β w' hbw => h22 w' (by repeat (first | exact hbw | replace hbw := hbw.1))) ?_)
                      | ((with_reducible show CallEv _ _ 30 _ _ _ _ _); refine callE (k := 30) (fun β w' hbw => h30' w' (by repeat (first | exact hbw | replace hbw := hbw.1))) ?_)
                      | ((with_reducible show CallEv _ _ 31 _ _ _ _ _); refine callF [] (fun z : {z : TbG // z.D.length = T.length} => z.1.v) (fun z w2 => TbIn w.heap.size (days.toNat + 1) z.1 CC w2) (fun β w' _ hbw => h31' w' (by repeat (first | exact hbw | replace hbw := hbw.1))) ?_; intro z)
                      | ((with_reducible show CallEv _ _ 32 _ _ _ _ _); refine callE (k := 32) (fun β w' hbw => h32 z.1 w' hbw.2 (by repeat (first | exact hbw | replace hbw := hbw.1))) ?_)
                      | ((with_reducible show CallEv _ _ 37 _ _ _ _ _); refine callE (k := 37) (fun β w' hbw => h37 w') ?_)
                    all_goals first | (exfalso; omega) | (exfalso; have := hz2 (by assumption); omega) | exact ⟨rfl, qz BB CC z, hpre BB CC z hCl hCr, Ent.weak rfl ⟨rfl, rfl, hsl BB CC z hCl, rfl, rfl, trivial⟩ ⟨rfl, trivial⟩ fun w2 h => hmem BB CC z w2 hCl h.1 h.2⟩
              · skip
                repeat'
                 conv => whnf
                 first
                  | refine zA ?_ | refine zB ?_ | refine zC ?_ | refine zD ?_ | refine zE ?_ | refine zF ?_ | refine zG ?_ | refine zH ?_ | refine zJ ?_ | refine zI ?_ | refine splT ?_ | refine splF ?_ | refine splNot ?_
                  | ((first | refine splIn (fun hc => ?_) (fun hc => ?_) | refine splD (fun hc => ?_) (fun hc => ?_) | refine splE (fun hc => ?_) (fun hc => ?_) | refine splNE (fun hc => ?_) (fun hc => ?_)) <;> first | (exfalso; omega) | (exfalso; dsimp only at hc; omega) | skip)
                  | ((with_reducible show CallEv _ _ 22 _ _ _ _ _); refine callE (k := 22) (fun β w' hbw => h22 w' (by repeat (first | exact hbw | replace hbw := hbw.1))) ?_)
                  | ((with_reducible show CallEv _ _ 30 _ _ _ _ _); refine callE (k := 30) (fun β w' hbw => h30' w' (by repeat (first | exact hbw | replace hbw := hbw.1))) ?_)
                  | ((with_reducible show CallEv _ _ 31 _ _ _ _ _); refine callF [] (fun z : {z : TbG // z.D.length = T.length} => z.1.v) (fun z w2 => TbIn w.heap.size (days.toNat + 1) z.1 CC w2) (fun β w' _ hbw => h31' w' (by repeat (first | exact hbw | replace hbw := hbw.1))) ?_; intro z)
                  | ((with_reducible show CallEv _ _ 32 _ _ _ _ _); refine callE (k := 32) (fun β w' hbw => h32 z.1 w' hbw.2 (by repeat (first | exact hbw | replace hbw := hbw.1))) ?_)
                  | ((with_reducible show CallEv _ _ 37 _ _ _ _ _); refine callE (k := 37) (fun β w' hbw => h37 w') ?_)
                all_goals first | (exfalso; omega) | exact ⟨rfl, qz BB CC z, hpre BB CC z hCl hCr, Ent.weak rfl ⟨rfl, rfl, hsl BB CC z hCl, rfl, rfl, trivial⟩ ⟨rfl, trivial⟩ fun w2 h => hmem BB CC z w2 hCl h.1 h.2⟩
    · intro q hq
      refine VC.of env mixed ?_
      have h43q := fun y y2 y3 w' h1 h2 h3 => h43 y y2 y3 q w' hq h1 h2 h3
      have h45q := fun e w' hb h3 => h45 e q w' hq hb h3
      have h44 := fun w' h3 => h44' q w' hq h3
      clear h43 h45 h44' h31 h32' hCs hBBb
      generalize shO (Tr.d ⟨days, shift, size, to, tc, T, lo, lc, L⟩) F q.1 (q.2.2.map Iw.xs) = S at *
      obtain ⟨q1, ⟨q2, q3⟩, Q⟩ := q
      dsimp only at h43q h45q h44 hq ⊢
      cases rg with
      | true =>
        have h45 := h45q rfl
        clear h45q
        simp only [Bool.true_and] at h43q
        cases S
        all_goals skip
        repeat'
         conv => whnf
         first
          | refine zA ?_ | refine zB ?_ | refine zC ?_ | refine zD ?_ | refine zE ?_ | refine zF ?_ | refine zG ?_ | refine zH ?_ | refine zJ ?_ | refine zI ?_ | refine splT ?_ | refine splF ?_ | refine splNot ?_
          | ((first | refine splIn (fun hc => ?_) (fun hc => ?_) | refine splD (fun hc => ?_) (fun hc => ?_) | refine splE (fun hc => ?_) (fun hc => ?_) | refine splNE (fun hc => ?_) (fun hc => ?_)) <;> first | (exfalso; omega) | (exfalso; dsimp only at hc; omega) | skip)
          | ((with_reducible show CallEv _ _ 21 _ _ _ _ _); refine callF [] (fun y : Tr => y.v) (fun y w2 => TrIn y w2 ∧ y.d = Tr.d ⟨days, shift, size, to, tc, T, lo, lc, L⟩) (fun β w' _ hbw => hT w' (by repeat (first | exact hbw | replace hbw := hbw.1))) ?_; intro y)
          | ((with_reducible show CallEv _ _ 29 _ _ _ _ _); refine callF [] (fun y2 : Option Addr × Nat => sV F.length y2) (fun y2 w2 => Rd 1 iF (sV F.length y2) F w2) (fun β w' _ hbw => h29 w' (by repeat (first | exact hbw | replace hbw := hbw.1))) ?_; intro y2)
          | ((with_reducible show CallEv _ _ 44 _ _ _ _ _); refine callF [] (fun y3 : (Option Addr × Nat) × List Iw => .slice y3.1.1 y3.2.length y3.1.2) (fun y3 w2 => (Rd 1 Iw.cs (.slice y3.1.1 y3.2.length y3.1.2) y3.2 w2 ∧ ∀ r ∈ y3.2, Rd 1 iF (.slice r.o r.xs.length r.c) r.xs w2) ∧ y3.2.map Iw.xs = Q.map Iw.xs) (fun β w' _ hbw => h44 w' hbw.1.1.2) ?_; intro y3)
          | ((with_reducible show CallEv _ _ 43 _ _ _ _ _); refine callE (k := 43) (fun β w' hbw => h43q y y2 y3 w' hbw.1.1.2 hbw.1.2 hbw.2) ?_)
          | ((with_reducible show CallEv _ _ 45 _ _ _ _ _); refine callE (k := 45) (fun β w' hbw => h45 w' (by repeat (first | exact hbw | replace hbw := hbw.1)) hbw.1.1.1.2) ?_)
          | ((with_reducible show CallEv _ _ 19 _ _ _ _ _); refine callE (k := 19) (fun β w' hbw => awake_ok w') ?_)
          | refine eqlS ?_
        all_goals first | (exfalso; omega) | exact ⟨fun β => rfl, fun w' h => (by repeat (first | exact h | replace h := h.1))⟩
      | false =>
        clear h45q
        simp only [Bool.false_and] at h43q
        clear S
        repeat'
         conv => whnf
         first
          | refine zA ?_ | refine zB ?_ | refine zC ?_ | refine zD ?_ | refine zE ?_ | refine zF ?_ | refine zG ?_ | refine zH ?_ | refine zJ ?_ | refine zI ?_ | refine splT ?_ | refine splF ?_ | refine splNot ?_
          | ((first | refine splIn (fun hc => ?_) (fun hc => ?_) | refine splD (fun hc => ?_) (fun hc => ?_) | refine splE (fun hc => ?_) (fun hc => ?_) | refine splNE (fun hc => ?_) (fun hc => ?_)) <;> first | (exfalso; omega) | (exfalso; dsimp only at hc; omega) | skip)
          | ((with_reducible show CallEv _ _ 21 _ _ _ _ _); refine callF [] (fun y : Tr => y.v) (fun y w2 => TrIn y w2 ∧ y.d = Tr.d ⟨days, shift, size, to, tc, T, lo, lc, L⟩) (fun β w' _ hbw => hT w' (by repeat (first | exact hbw | replace hbw := hbw.1))) ?_; intro y)
          | ((with_reducible show CallEv _ _ 29 _ _ _ _ _); refine callF [] (fun y2 : Option Addr × Nat => sV F.length y2) (fun y2 w2 => Rd 1 iF (sV F.length y2) F w2) (fun β w' _ hbw => h29 w' (by repeat (first | exact hbw | replace hbw := hbw.1))) ?_; intro y2)
          | ((with_reducible show CallEv _ _ 44 _ _ _ _ _); refine callF [] (fun y3 : (Option Addr × Nat) × List Iw => .slice y3.1.1 y3.2.length y3.1.2) (fun y3 w2 => (Rd 1 Iw.cs (.slice y3.1.1 y3.2.length y3.1.2) y3.2 w2 ∧ ∀ r ∈ y3.2, Rd 1 iF (.slice r.o r.xs.length r.c) r.xs w2) ∧ y3.2.map Iw.xs = Q.map Iw.xs) (fun β w' _ hbw => h44 w' hbw.1.1.2) ?_; intro y3)
          | ((with_reducible show CallEv _ _ 43 _ _ _ _ _); refine callE (k := 43) (fun β w' hbw => h43q y y2 y3 w' hbw.1.1.2 hbw.1.2 hbw.2) ?_)
          | ((with_reducible show CallEv _ _ 19 _ _ _ _ _); refine callE (k := 19) (fun β w' hbw => awake_ok w') ?_)
          | refine eqlS ?_
        all_goals first | (exfalso; omega) | exact ⟨fun β => rfl, fun w' h => (by repeat (first | exact h | replace h := h.1))⟩
  · have h17t := h17
    have h22t := h22
    clear h17 h22
    obtain ⟨b1, hb1⟩ : ∃ b, smB x.d = b := ⟨_, rfl⟩
    obtain ⟨b2, hb2⟩ : ∃ b, toB x.d = b := ⟨_, rfl⟩
    have hF15 : b1 = true → ¬ (F.length ≤ 15 ∧ R.length ≤ 12) := fun hs hc => hg ⟨⟨hb1.trans hs, hc.1⟩, hc.2⟩
    rw [hb1] at h17t
    rw [hb2] at h22t
    clear h hg hb1 hb2
    obtain ⟨days, shift, size, to, tc, T, lo, lc, L⟩ := x
    dsimp only at htl
    refine calls_val env mixed Try.func9 has9 Try.ntmps9 [.agg #[iv days, iv shift, iv size, .slice to T.length tc, .slice lo L.length lc], .slice o F.length c, iv bound, .slice bo R.length bc, .bool own, iv row, iv at_, iv by_] (by simp) ?_
    cases b1 with
    | false =>
      repeat'
       conv => whnf
       first
        | refine zA ?_ | refine zB ?_ | refine zC ?_ | refine zD ?_ | refine zE ?_ | refine zF ?_ | refine zG ?_ | refine zH ?_ | refine zJ ?_ | refine zI ?_ | refine splT ?_ | refine splF ?_ | refine splNot ?_
        | ((first | refine splIn (fun hc => ?_) (fun hc => ?_) | refine splD (fun hc => ?_) (fun hc => ?_) | refine splE (fun hc => ?_) (fun hc => ?_) | refine splNE (fun hc => ?_) (fun hc => ?_)) <;> first | (exfalso; omega) | (exfalso; dsimp only at hc; omega) | skip)
        | ((with_reducible show CallEv _ _ 17 _ _ _ _ _); refine callE (k := 17) (fun β w' hbw => h17t w' (by repeat (first | exact hbw | replace hbw := hbw.1))) ?_)
        | ((with_reducible show CallEv _ _ 19 _ _ _ _ _); refine callE (k := 19) (fun β w' hbw => awake_ok w') ?_)
      all_goals first | (exfalso; omega) | exact ⟨fun β => rfl, fun w' h => (by repeat (first | exact h | replace h := h.1))⟩
    | true =>
      have h15 := hF15 rfl
      clear hF15
      cases b2
      all_goals skip
      · skip
        repeat'
         conv => whnf
         first
          | refine zA ?_ | refine zB ?_ | refine zC ?_ | refine zD ?_ | refine zE ?_ | refine zF ?_ | refine zG ?_ | refine zH ?_ | refine zJ ?_ | refine zI ?_ | refine splT ?_ | refine splF ?_ | refine splNot ?_
          | ((first | refine splIn (fun hc => ?_) (fun hc => ?_) | refine splD (fun hc => ?_) (fun hc => ?_) | refine splE (fun hc => ?_) (fun hc => ?_) | refine splNE (fun hc => ?_) (fun hc => ?_)) <;> first | (exfalso; omega) | (exfalso; dsimp only at hc; omega) | skip)
          | ((with_reducible show CallEv _ _ 17 _ _ _ _ _); refine callE (k := 17) (fun β w' hbw => h17t w' (by repeat (first | exact hbw | replace hbw := hbw.1))) ?_)
          | ((with_reducible show CallEv _ _ 22 _ _ _ _ _); refine callE (k := 22) (fun β w' hbw => h22t w' (by repeat (first | exact hbw | replace hbw := hbw.1))) ?_)
          | ((with_reducible show CallEv _ _ 19 _ _ _ _ _); refine callE (k := 19) (fun β w' hbw => awake_ok w') ?_)
        all_goals first | (exfalso; omega) | exact ⟨fun β => rfl, fun w' h => (by repeat (first | exact h | replace h := h.1))⟩
      · skip
        repeat'
         conv => whnf
         first
          | refine zA ?_ | refine zB ?_ | refine zC ?_ | refine zD ?_ | refine zE ?_ | refine zF ?_ | refine zG ?_ | refine zH ?_ | refine zJ ?_ | refine zI ?_ | refine splT ?_ | refine splF ?_ | refine splNot ?_
          | ((first | refine splIn (fun hc => ?_) (fun hc => ?_) | refine splD (fun hc => ?_) (fun hc => ?_) | refine splE (fun hc => ?_) (fun hc => ?_) | refine splNE (fun hc => ?_) (fun hc => ?_)) <;> first | (exfalso; omega) | (exfalso; dsimp only at hc; omega) | skip)
          | ((with_reducible show CallEv _ _ 17 _ _ _ _ _); refine callE (k := 17) (fun β w' hbw => h17t w' (by repeat (first | exact hbw | replace hbw := hbw.1))) ?_)
          | ((with_reducible show CallEv _ _ 22 _ _ _ _ _); refine callE (k := 22) (fun β w' hbw => h22t w' (by repeat (first | exact hbw | replace hbw := hbw.1))) ?_)
          | ((with_reducible show CallEv _ _ 19 _ _ _ _ _); refine callE (k := 19) (fun β w' hbw => awake_ok w') ?_)
        all_goals first | (exfalso; omega) | exact ⟨fun β => rfl, fun w' h => (by repeat (first | exact h | replace h := h.1))⟩
end Go.Proofs.Ythfabodamhdhaaa
