/- Tables that show a bound: what ProveBound returns. -/
import Derived.Test.YthfabodamhdhaaaTA
namespace Go.Proofs.Ythfabodamhdhaaa
open Go Tx Go.RowKit
set_option linter.unusedSimpArgs false
set_option linter.unusedVariables false
theorem num_ok (n : Int) (w : World) : Calls Try.prog 76 #[iv n] w fun e w' => e = .returned (.bool (inB n (-1000000000000) 1000000000000)) ∧ Below w.heap.size w w' := by
 refine calls_val env mixed Try.func76 has76 Try.ntmps76 [iv n] (by simp) ?_
 repeat'
  conv => whnf
  first
   | refine zA ?_ | refine zB ?_ | refine zC ?_ | refine zD ?_ | refine zE ?_ | refine zF ?_ | refine zG ?_ | refine zH ?_ | refine zJ ?_ | refine zI ?_ | refine splT ?_ | refine splF ?_ | refine splNot ?_
   | ((first | refine splIn ?_ ?_ | refine splD ?_ ?_ | refine splE ?_ ?_ | refine splNE ?_ ?_) <;> intro hc <;> first | (exfalso; omega) | (exfalso; dsimp only at hc; omega) | skip)
   | ((with_reducible show CallEv _ _ 70 _ _ _ _ _); refine callE (k := 70) (fun β w' hbw => within_ok _ _ _ _) ?_)
 all_goals exact ⟨fun β => rfl, fun w' h => h⟩
set_option maxRecDepth 100000 in
theorem all76_ok (L : List (Int)) (o : Option Addr) (c : Nat) (w : World) (hrd : Rd 1 iF (.slice o L.length c) L w) (hl : L.length ≤ 17592186043904) :
 Calls Try.prog 79 #[.slice o L.length c, .func (.func 76) #[] #[]] w fun e w' => e = .returned (.bool (L.all (fun n : Int => inB n (-1000000000000) 1000000000000))) ∧ Below w.heap.size w w' := by
 refine calls_val env mixed Try.func79 has79 Try.ntmps79 [.slice o L.length c, .func (.func 76) #[] #[]] (by simp) ?_
 repeat'
  conv => whnf
  first
   | refine zA ?_ | refine zB ?_ | refine zC ?_ | refine zD ?_ | refine zE ?_ | refine zF ?_ | refine zG ?_ | refine zH ?_ | refine zJ ?_ | refine zI ?_ | refine splT ?_ | refine splF ?_ | refine splNot ?_
   | ((first | refine splIn ?_ ?_ | refine splD ?_ ?_ | refine splE ?_ ?_ | refine splNE ?_ ?_) <;> intro hc <;> first | (exfalso; omega) | (exfalso; dsimp only at hc; omega) | skip)
   | ((with_reducible show CallEv _ _ 112 _ _ _ _ _); refine callI env mixed 1000 [] Try.func112 has112 Try.ntmps112 (Nat.le_of_ble_eq_true rfl) rfl rfl rfl ?_)
   | ((with_reducible show CallEv _ _ 156 _ _ _ _ _); refine callI env mixed 2000 [] Try.func156 has156 Try.ntmps156 (Nat.le_of_ble_eq_true rfl) rfl rfl rfl ?_)
 refine loopE (fun k : Nat => [(0, .v (.slice o L.length c)), (1, .fn (.func 113) [.ptr 0 0]), (7, .v (iv L.length)), (8, .v (iv k))]) (fun _ => [(0, .cells [.v (.func (.func 76) #[] #[])] 135)]) (fun k => k ≤ L.length ∧ (L.take k).all (fun n : Int => inB n (-1000000000000) 1000000000000) = true) (fun k => L.length - k) 0 ⟨Nat.zero_le _, rfl⟩ ⟨rfl, rfl, rfl, rfl, trivial⟩ ⟨rfl, trivial⟩ (fun _ => ⟨rfl, rfl⟩) ?_
 intro k ⟨hk, hall⟩
 rcases Nat.lt_or_ge k L.length with hkl | hkl
 · obtain ⟨n, hb⟩ : ∃ b, L[k]? = some b := ⟨_, List.getElem?_eq_getElem hkl⟩
   obtain ⟨_, ad, rfl, _⟩ := hrd.ptr (by omega)
   have ht : (L.take (k + 1)).all (fun n : Int => inB n (-1000000000000) 1000000000000) = (fun n : Int => inB n (-1000000000000) 1000000000000) n := by rw [List.take_add_one, hb]; simp [hall]
   have e0 := fun (w' : World) hw' => rd_ati (hrd.below (w' := w') hw') hb
   have hv := fun w' => num_ok n w'
   obtain ⟨vb, hvb⟩ : ∃ vb, (fun n : Int => inB n (-1000000000000) 1000000000000) n = vb := ⟨_, rfl⟩
   have hv' : ∀ w', Calls Try.prog 76 #[iv n] w' fun e w2 => e = .returned (.bool vb) ∧ Below w'.heap.size w' w2 := fun w' => by rw [← hvb]; exact hv w'
   clear hv
   cases vb with
   | true =>
    rw [hvb] at ht
    repeat'
     conv => whnf
     first
      | refine zA ?_ | refine zB ?_ | refine zC ?_ | refine zD ?_ | refine zE ?_ | refine zF ?_ | refine zG ?_ | refine zH ?_ | refine zJ ?_ | refine zI ?_ | refine splT ?_ | refine splF ?_ | refine splNot ?_
      | ((first | refine splIn ?_ ?_ | refine splD ?_ ?_ | refine splE ?_ ?_ | refine splNE ?_ ?_) <;> intro hc <;> first | (exfalso; omega) | (exfalso; dsimp only at hc; omega) | skip)
      | refine Exists.intro (α := List Value) [iv n] ⟨⟨rfl, fun w' hw' => e0 w' hw'⟩, ?_⟩
      | ((with_reducible show CallEv _ _ 113 _ _ _ _ _); refine callI env mixed 3000 [0,1,5,7,8] Try.func113 has113 Try.ntmps113 (Nat.le_of_ble_eq_true rfl) rfl rfl rfl ?_)
      | ((with_reducible show CallEv _ _ 76 _ _ _ _ _); refine callE (k := 76) (fun β w' hbw => hv' _) ?_)
    exact ⟨k + 1, ⟨by omega, ht⟩, by omega, Ent.weak rfl ⟨rfl, rfl, rfl, rfl, trivial⟩ ⟨rfl, trivial⟩ fun _ h => h⟩
   | false =>
    have hno : L.all (fun n : Int => inB n (-1000000000000) 1000000000000) = false := by
     rw [List.all_eq_false]
     exact ⟨_, List.mem_of_getElem? hb, fun hc => absurd (hvb.symm.trans hc) (by decide)⟩
    rw [hno]
    repeat'
     conv => whnf
     first
      | refine zA ?_ | refine zB ?_ | refine zC ?_ | refine zD ?_ | refine zE ?_ | refine zF ?_ | refine zG ?_ | refine zH ?_ | refine zJ ?_ | refine zI ?_ | refine splT ?_ | refine splF ?_ | refine splNot ?_
      | ((first | refine splIn ?_ ?_ | refine splD ?_ ?_ | refine splE ?_ ?_ | refine splNE ?_ ?_) <;> intro hc <;> first | (exfalso; omega) | (exfalso; dsimp only at hc; omega) | skip)
      | refine Exists.intro (α := List Value) [iv n] ⟨⟨rfl, fun w' hw' => e0 w' hw'⟩, ?_⟩
      | ((with_reducible show CallEv _ _ 113 _ _ _ _ _); refine callI env mixed 3000 [0,1,5,7,8] Try.func113 has113 Try.ntmps113 (Nat.le_of_ble_eq_true rfl) rfl rfl rfl ?_)
      | ((with_reducible show CallEv _ _ 76 _ _ _ _ _); refine callE (k := 76) (fun β w' hbw => hv' _) ?_)
    all_goals first | exact ⟨fun β => rfl, fun w' h => h⟩ | (exfalso; omega)
 · rw [List.take_of_length_le hkl] at hall
   rw [hall]
   repeat'
    conv => whnf
    first
     | refine zA ?_ | refine zB ?_ | refine zC ?_ | refine zD ?_ | refine zE ?_ | refine zF ?_ | refine zG ?_ | refine zH ?_ | refine zJ ?_ | refine zI ?_ | refine splT ?_ | refine splF ?_ | refine splNot ?_
     | ((first | refine splIn ?_ ?_ | refine splD ?_ ?_ | refine splE ?_ ?_ | refine splNE ?_ ?_) <;> intro hc <;> first | (exfalso; omega) | (exfalso; dsimp only at hc; omega) | skip)
   all_goals first | exact ⟨fun β => rfl, fun w' h => h⟩ | (exfalso; omega)
def rgT (N : Nat) (R : List (List Int)) : Bool := R.all fun row => decide (row.length = N) && row.all fun n => inB n (-1000000000000) 1000000000000
def geT (x : To) (F : List Int) (R : List (List Int)) : Bool := (List.range x.T.length).all fun a => (List.range (x.days.toNat + 1)).all fun d => decide (asO x F R a d ≤ tbO R a d)
def shO (x : To) (F : List Int) (b : Int) (R : List (List Int)) : Bool := decide (R.length = x.T.length) && (rgT (x.days.toNat + 1) R && (geT x F R && decide (bdO F R = b)))
theorem shO_iff {x : To} {F : List Int} {b : Int} {R : List (List Int)} : shO x F b R = true ↔ R.length = x.T.length ∧ (∀ r ∈ R, r.length = x.days.toNat + 1 ∧ ∀ n ∈ r, -1000000000000 ≤ n ∧ n ≤ 1000000000000) ∧ (∀ a, a < x.T.length → ∀ d, d < x.days.toNat + 1 → asO x F R a d ≤ tbO R a d) ∧ bdO F R = b := by
 simp only [shO, rgT, geT, inB, Bool.and_eq_true, decide_eq_true_eq, List.all_eq_true, List.mem_range]
set_option maxHeartbeats 8000000 in
set_option maxRecDepth 100000 in
theorem PB_ok (x : Tr) (fo : Option Addr) (fc : Nat) (F : List Int) (bound : Int) (bo : Option Addr) (bc : Nat) (R : List Iw) (w : World) (h : TrIn x w) (hF : Rd 1 iF (.slice fo F.length fc) F w) (hFl : F.length ≤ 1000000)
 (hR : Rd 1 Iw.cs (.slice bo R.length bc) R w) (hRr : ∀ r ∈ R, Rd 1 iF (.slice r.o r.xs.length r.c) r.xs w) (hRl : R.length ≤ 1000000) (hRn : ∀ r ∈ R, r.xs.length ≤ 17592186043904) :
 Calls Try.prog 43 #[x.v, .slice fo F.length fc, iv bound, .slice bo R.length bc] w fun e w' => e = .returned (.bool ((toB x.d && feB x.T.length F) && shO x.d F bound (R.map Iw.xs))) ∧ Below w.heap.size w w' := by
 have hv := fun w' hb => valid_ok x w' (h.below hb)
 by_cases hok : toB x.d = true ∧ feB x.T.length F = true ∧ R.length = x.T.length
 · obtain ⟨hto, hfe, hRn2⟩ := hok
   obtain ⟨hFn, hFb⟩ := feB_n hfe
   rw [hto] at hv
   have hn := toB_n hto
   have hday := hn.d
   have hnT := hn.n
   have hlen : x.d.T.length = x.T.length := List.length_map ..
   rw [hlen] at hnT
   have h65 := fun w' (hb : Below w.heap.size w w') => fees_ok x fo fc F w' (hF.below hb) hFl (by omega)
   rw [hfe] at h65
   rw [hto, hfe, Bool.and_true, Bool.true_and]
   have hiff := shO_iff (x := x.d) (F := F) (b := bound) (R := R.map Iw.xs)
   obtain ⟨V, hV⟩ : ∃ V, shO x.d F bound (R.map Iw.xs) = V := ⟨_, rfl⟩
   rw [hV] at hiff ⊢
   clear hV
   have h66' := fun (a d : Nat) (hrn : ∀ r ∈ R, r.xs.length = x.days.toNat + 1) (hrb : TbB 1000000000000 (R.map Iw.xs)) (ha : a < x.T.length) (hd : d ≤ x.days.toNat) w' (hb : Below w.heap.size w w') => asked_ok x fo fc F bo bc R 1000000000000 a d w' (h.below hb) hn (hF.below hb) hFb hFn (hR.below hb) (fun r hr => (hRr r hr).below hb) hRn2 hrn hrb (by omega) ha hd
   have h67' := fun (r : Iw) (z : Int) (hr : R[0]? = some r) (hrs : r.xs.length ≤ 1000000) (hz : r.xs[0]? = some z) (hzb : -5000000000000 ≤ z ∧ z ≤ 5000000000000) w' (hb : Below w.heap.size w w') => bounded_ok fo fc F bo bc R r z w' (hF.below hb) (by omega) hFb (hR.below hb) hr ((hRr r (List.mem_of_getElem? hr)).below hb) hz hzb hRl hrs
   have hAb := fun (hrb : TbB 1000000000000 (R.map Iw.xs)) a d => asO_bd hn hFb hrb (by omega) a d
   have hdx : x.d.days = x.days := rfl
   rw [hdx] at hday
   rw [hlen, hdx] at hiff
   clear h hn hto
   obtain ⟨days, shift, size, to, tc, T, lo, lc, L⟩ := x
   dsimp only at hnT hday hRn2 hFn h66' hiff
   obtain ⟨nd, rfl⟩ : ∃ nd : Nat, days = nd := ⟨days.toNat, by omega⟩
   rw [Int.toNat_natCast] at h66' hiff
   obtain ⟨_, fa, rfl, _⟩ := hF.ptr (by omega)
   obtain ⟨_, ba, rfl, _⟩ := hR.ptr (by omega)
   have erow := fun (w' : World) (hb : Below w.heap.size w w') k r (hr : R[k]? = some r) => rd_ati (hR.below hb) hr
   generalize hAO : (fun a d => asO (Tr.d ⟨(nd : Int), shift, size, to, tc, T, lo, lc, L⟩) F (R.map Iw.xs) a d) = AO at *
   have hAO2 : ∀ a d, asO (Tr.d ⟨(nd : Int), shift, size, to, tc, T, lo, lc, L⟩) F (R.map Iw.xs) a d = AO a d := fun a d => by rw [← hAO]
   simp only [hAO2] at hiff h66' hAb
   clear hAO hAO2
   refine calls_val env mixed Try.func43 has43 Try.ntmps43 [.agg #[iv nd, iv shift, iv size, .slice to T.length tc, .slice lo L.length lc], .slice (some fa) F.length fc, iv bound, .slice (some ba) R.length bc] (by simp) ?_
   repeat'
    conv => whnf
    first
     | refine zA ?_ | refine zB ?_ | refine zC ?_ | refine zD ?_ | refine zE ?_ | refine zF ?_ | refine zG ?_ | refine zH ?_ | refine zJ ?_ | refine zI ?_ | refine splT ?_ | refine splF ?_ | refine splNot ?_
     | ((first | refine splIn ?_ ?_ | refine splD ?_ ?_ | refine splE ?_ ?_ | refine splNE ?_ ?_) <;> intro hc <;> first | (exfalso; omega) | (exfalso; dsimp only at hc; omega) | skip)
     | ((with_reducible show CallEv _ _ 56 _ _ _ _ _); refine callE (k := 56) (fun β w' hbw => hv w' hbw) ?_)
     | ((with_reducible show CallEv _ _ 65 _ _ _ _ _); refine callE (k := 65) (fun β w' hbw => h65 w' hbw) ?_)
     | ((with_reducible show CallEv _ _ 77 _ _ _ _ _); refine callI env mixed 1000 [1,2,3,4] Try.func77 has77 Try.ntmps77 (Nat.le_of_ble_eq_true rfl) rfl rfl rfl ?_)
     | ((with_reducible show CallEv _ _ 110 _ _ _ _ _); refine callI env mixed 2000 [] Try.func110 has110 Try.ntmps110 (Nat.le_of_ble_eq_true rfl) rfl rfl rfl ?_)
     | ((with_reducible show CallEv _ _ 155 _ _ _ _ _); refine callI env mixed 3000 [] Try.func155 has155 Try.ntmps155 (Nat.le_of_ble_eq_true rfl) rfl rfl rfl ?_)
   all_goals first | (exfalso; omega) | skip
   refine loopE (fun k : Nat => [(0, .v (.slice (some ba) R.length bc)), (1, .fn (.func 111) [.ptr 2 0]), (7, .v (iv R.length)), (8, .v (iv k))]) (fun _ => [(2, .cells [.fn (.func 78) [.ptr 0 0, .ptr 1 0]] 132), (1, .cells [.v (.func (.func 76) #[] #[])] 135), (0, .cells [.v (iv nd), .v (iv shift), .v (iv size), .v (.slice to T.length tc), .v (.slice lo L.length lc)] 35)]) (fun k => k ≤ R.length ∧ ∀ j < k, ∀ r, R[j]? = some r → r.xs.length = nd + 1 ∧ ∀ n ∈ r.xs, -1000000000000 ≤ n ∧ n ≤ 1000000000000) (fun k => R.length - k) 0 ⟨Nat.zero_le _, fun j hj => by omega⟩ ⟨rfl, rfl, rfl, rfl, trivial⟩ ⟨rfl, rfl, rfl, trivial⟩ (fun _ => ⟨rfl, rfl⟩) ?_
   intro k ⟨hk, hall⟩
   rcases Nat.lt_or_ge k R.length with hkl | hkl
   · obtain ⟨⟨ro, rc, xs⟩, hr⟩ : ∃ r, R[k]? = some r := ⟨_, List.getElem?_eq_getElem hkl⟩
     have e1 := fun (w' : World) hb => erow w' hb k _ hr
     have hm := List.mem_of_getElem? hr
     have hrd := hRr _ hm
     have hrn := hRn _ hm
     dsimp only at hrd hrn
     have h79 := fun w' (hb : Below w.heap.size w w') => all76_ok xs ro rc w' (hrd.below hb) hrn
     obtain ⟨va, hva⟩ : ∃ v, xs.all (fun n : Int => inB n (-1000000000000) 1000000000000) = v := ⟨_, rfl⟩
     have hva2 : va = true → ∀ n ∈ xs, -1000000000000 ≤ n ∧ n ≤ 1000000000000 := fun e n hn => by
      rw [e, List.all_eq_true] at hva
      simpa only [inB, Bool.and_eq_true, decide_eq_true_eq] using hva n hn
     have hVno : ¬ (xs.length = nd + 1 ∧ va = true) → false = V := fun hc => by
      cases V with
      | false => rfl
      | true =>
       have := (hiff.1 rfl).2.1 xs (List.mem_map.2 ⟨_, hm, rfl⟩)
       refine absurd ⟨this.1, ?_⟩ hc
       rw [← hva, List.all_eq_true]
       intro n hn
       simp only [inB, Bool.and_eq_true, decide_eq_true_eq]
       exact this.2 n hn
     rw [hva] at h79
     by_cases hl1 : xs.length = nd + 1
     · cases va with
       | true =>
        have hnx : ∀ j < k + 1, ∀ r, R[j]? = some r → r.xs.length = nd + 1 ∧ ∀ n ∈ r.xs, -1000000000000 ≤ n ∧ n ≤ 1000000000000 := fun j hj r hr2 => by
         rcases (by omega : j < k ∨ j = k) with hj | rfl
         · exact hall j hj r hr2
         · rw [hr, Option.some.injEq] at hr2; subst hr2; exact ⟨hl1, hva2 rfl⟩
        repeat'
         conv => whnf
         first
          | refine zA ?_ | refine zB ?_ | refine zC ?_ | refine zD ?_ | refine zE ?_ | refine zF ?_ | refine zG ?_ | refine zH ?_ | refine zJ ?_ | refine zI ?_ | refine splT ?_ | refine splF ?_ | refine splNot ?_
          | ((first | refine splIn ?_ ?_ | refine splD ?_ ?_ | refine splE ?_ ?_ | refine splNE ?_ ?_) <;> intro hc <;> first | (exfalso; omega) | (exfalso; dsimp only at hc; omega) | skip)
          | refine Exists.intro (α := List Value) [.slice ro xs.length rc] ⟨⟨rfl, fun w' hw' => e1 w' hw'⟩, ?_⟩
          | ((with_reducible show CallEv _ _ 111 _ _ _ _ _); refine callI env mixed 4000 [0,1,5,7,8] Try.func111 has111 Try.ntmps111 (Nat.le_of_ble_eq_true rfl) rfl rfl rfl ?_)
          | ((with_reducible show CallEv _ _ 78 _ _ _ _ _); refine callI env mixed 5000 [] Try.func78 has78 Try.ntmps78 (Nat.le_of_ble_eq_true rfl) rfl rfl rfl ?_)
          | ((with_reducible show CallEv _ _ 79 _ _ _ _ _); refine callE (k := 79) (fun β w' hbw => h79 w' hbw) ?_)
        all_goals first | (exfalso; omega) | exact ⟨k + 1, ⟨by omega, hnx⟩, by omega, Ent.weak rfl ⟨rfl, rfl, rfl, rfl, trivial⟩ ⟨rfl, rfl, rfl, trivial⟩ fun _ h => h⟩
       | false =>
        have hVf : false = V := hVno fun hc => by cases hc.2
        repeat'
         conv => whnf
         first
          | refine zA ?_ | refine zB ?_ | refine zC ?_ | refine zD ?_ | refine zE ?_ | refine zF ?_ | refine zG ?_ | refine zH ?_ | refine zJ ?_ | refine zI ?_ | refine splT ?_ | refine splF ?_ | refine splNot ?_
          | ((first | refine splIn ?_ ?_ | refine splD ?_ ?_ | refine splE ?_ ?_ | refine splNE ?_ ?_) <;> intro hc <;> first | (exfalso; omega) | (exfalso; dsimp only at hc; omega) | skip)
          | refine Exists.intro (α := List Value) [.slice ro xs.length rc] ⟨⟨rfl, fun w' hw' => e1 w' hw'⟩, ?_⟩
          | ((with_reducible show CallEv _ _ 111 _ _ _ _ _); refine callI env mixed 4000 [0,1,5,7,8] Try.func111 has111 Try.ntmps111 (Nat.le_of_ble_eq_true rfl) rfl rfl rfl ?_)
          | ((with_reducible show CallEv _ _ 78 _ _ _ _ _); refine callI env mixed 5000 [] Try.func78 has78 Try.ntmps78 (Nat.le_of_ble_eq_true rfl) rfl rfl rfl ?_)
          | ((with_reducible show CallEv _ _ 79 _ _ _ _ _); refine callE (k := 79) (fun β w' hbw => h79 w' hbw) ?_)
        all_goals first | (exfalso; omega) | exact ⟨fun β => congrArg Value.bool hVf, fun w' h => h⟩
     · have hVf : false = V := hVno fun hc => hl1 hc.1
       cases va
       all_goals skip
       repeat'
        conv => whnf
        first
         | refine zA ?_ | refine zB ?_ | refine zC ?_ | refine zD ?_ | refine zE ?_ | refine zF ?_ | refine zG ?_ | refine zH ?_ | refine zJ ?_ | refine zI ?_ | refine splT ?_ | refine splF ?_ | refine splNot ?_
         | ((first | refine splIn ?_ ?_ | refine splD ?_ ?_ | refine splE ?_ ?_ | refine splNE ?_ ?_) <;> intro hc <;> first | (exfalso; omega) | (exfalso; dsimp only at hc; omega) | skip)
         | refine Exists.intro (α := List Value) [.slice ro xs.length rc] ⟨⟨rfl, fun w' hw' => e1 w' hw'⟩, ?_⟩
         | ((with_reducible show CallEv _ _ 111 _ _ _ _ _); refine callI env mixed 4000 [0,1,5,7,8] Try.func111 has111 Try.ntmps111 (Nat.le_of_ble_eq_true rfl) rfl rfl rfl ?_)
         | ((with_reducible show CallEv _ _ 78 _ _ _ _ _); refine callI env mixed 5000 [] Try.func78 has78 Try.ntmps78 (Nat.le_of_ble_eq_true rfl) rfl rfl rfl ?_)
         | ((with_reducible show CallEv _ _ 79 _ _ _ _ _); refine callE (k := 79) (fun β w' hbw => h79 w' hbw) ?_)
       all_goals first | (exfalso; omega) | exact ⟨fun β => congrArg Value.bool hVf, fun w' h => h⟩
   · obtain rfl : k = R.length := by omega
     have hrn : ∀ r ∈ R, r.xs.length = nd + 1 := fun r hr => by
      obtain ⟨j, hj⟩ := List.mem_iff_getElem?.1 hr
      exact (hall j (List.getElem?_eq_some_iff.1 hj).1 r hj).1
     have hrb : TbB 1000000000000 (R.map Iw.xs) := fun q hq n hn => by
      obtain ⟨r, hr, rfl⟩ := List.mem_map.1 hq
      obtain ⟨j, hj⟩ := List.mem_iff_getElem?.1 hr
      exact (hall j (List.getElem?_eq_some_iff.1 hj).1 r hj).2 n hn
     have hrb2 := hAb hrb
     have h66 := fun a d ha hd => h66' a d hrn hrb ha hd
     clear hall
     conv => whnf
     repeat'
      conv => whnf
      first
       | refine zA ?_ | refine zB ?_ | refine zC ?_ | refine zD ?_ | refine zE ?_ | refine zF ?_ | refine zG ?_ | refine zH ?_ | refine zJ ?_ | refine zI ?_ | refine splT ?_ | refine splF ?_ | refine splNot ?_
       | ((first | refine splIn ?_ ?_ | refine splD ?_ ?_ | refine splE ?_ ?_ | refine splNE ?_ ?_) <;> intro hc <;> first | (exfalso; omega) | (exfalso; dsimp only at hc; omega) | skip)
     all_goals first | (exfalso; omega) | skip
     refine loopE (fun k : Nat => [(1, .v (.slice (some fa) F.length fc)), (2, .v (iv bound)), (3, .v (.slice (some ba) R.length bc)), (4, .ptr 0 0), (35, .v (.slice (some ba) R.length bc)), (36, .v (iv R.length)), (37, .v (iv k))]) (fun _ => [(0, .cells [.v (iv nd), .v (iv shift), .v (iv size), .v (.slice to T.length tc), .v (.slice lo L.length lc)] 35)]) (fun k => k ≤ R.length ∧ ∀ a < k, ∀ d < nd + 1, AO a d ≤ tbO (R.map Iw.xs) a d) (fun k => R.length - k) 0 ⟨Nat.zero_le _, fun a ha => by omega⟩ ⟨rfl, rfl, rfl, rfl, rfl, rfl, rfl, trivial⟩ ⟨rfl, trivial⟩ (fun _ => ⟨rfl, rfl⟩) ?_
     intro k ⟨hk, hge⟩
     rcases Nat.lt_or_ge k R.length with hkl | hkl
     · obtain ⟨⟨ro, rc, xs⟩, hr⟩ : ∃ r, R[k]? = some r := ⟨_, List.getElem?_eq_getElem hkl⟩
       have e1 := fun (w' : World) hb => erow w' hb k _ hr
       have hm := List.mem_of_getElem? hr
       have hrd := hRr _ hm
       have hxl := hrn _ hm
       dsimp only at hrd hxl
       obtain ⟨_, ra, rfl, _⟩ := hrd.ptr (by omega)
       repeat'
        conv => whnf
        first
         | refine zA ?_ | refine zB ?_ | refine zC ?_ | refine zD ?_ | refine zE ?_ | refine zF ?_ | refine zG ?_ | refine zH ?_ | refine zJ ?_ | refine zI ?_ | refine splT ?_ | refine splF ?_ | refine splNot ?_
         | ((first | refine splIn ?_ ?_ | refine splD ?_ ?_ | refine splE ?_ ?_ | refine splNE ?_ ?_) <;> intro hc <;> first | (exfalso; omega) | (exfalso; dsimp only at hc; omega) | skip)
         | refine Exists.intro (α := List Value) [.slice (some ra) xs.length rc] ⟨⟨rfl, fun w' hw' => e1 w' hw'⟩, ?_⟩
       all_goals first | (exfalso; omega) | skip
       refine loopE (fun d : Nat => [(1, .v (.slice (some fa) F.length fc)), (2, .v (iv bound)), (3, .v (.slice (some ba) R.length bc)), (4, .ptr 0 0), (10, .v (iv k)), (35, .v (.slice (some ba) R.length bc)), (36, .v (iv R.length)), (37, .v (iv k)), (42, .v (.slice (some ra) xs.length rc)), (43, .v (iv xs.length)), (44, .v (iv d))]) (fun _ => [(0, .cells [.v (iv nd), .v (iv shift), .v (iv size), .v (.slice to T.length tc), .v (.slice lo L.length lc)] 35)]) (fun d => d ≤ nd + 1 ∧ ∀ d' < d, AO k d' ≤ tbO (R.map Iw.xs) k d') (fun d => nd + 1 - d) 0 ⟨Nat.zero_le _, fun a ha => by omega⟩ ⟨rfl, rfl, rfl, rfl, rfl, rfl, rfl, rfl, rfl, rfl, rfl, trivial⟩ ⟨rfl, trivial⟩ (fun _ => ⟨rfl, rfl⟩) ?_
       intro d ⟨hd, hged⟩
       rcases Nat.lt_or_ge d (nd + 1) with hdl | hdl
       · obtain ⟨z, hz⟩ : ∃ z, xs[d]? = some z := ⟨_, List.getElem?_eq_getElem (by omega)⟩
         have ez := fun (w' : World) hw' => rd_ati (hrd.below (w' := w') hw') hz
         have htz : tbO (R.map Iw.xs) k d = z := by simp only [tbO, List.getElem?_map, hr, Option.map_some, Option.getD_some, hz]
         have h66c := h66 k d (by omega) (by omega)
         have hab := hrb2 k d
         by_cases hlt : z < AO k d
         · have hVf : false = V := by
            cases V with
            | false => rfl
            | true =>
             have := (hiff.1 rfl).2.2.1 k (by omega) d hdl
             omega
           generalize AO k d = A at *
           repeat'
            conv => whnf
            first
             | refine zA ?_ | refine zB ?_ | refine zC ?_ | refine zD ?_ | refine zE ?_ | refine zF ?_ | refine zG ?_ | refine zH ?_ | refine zJ ?_ | refine zI ?_ | refine splT ?_ | refine splF ?_ | refine splNot ?_
             | ((first | refine splIn ?_ ?_ | refine splD ?_ ?_ | refine splE ?_ ?_ | refine splNE ?_ ?_) <;> intro hc <;> first | (exfalso; omega) | (exfalso; dsimp only at hc; omega) | skip)
             | refine Exists.intro (α := List Value) [iv z] ⟨⟨rfl, fun w' hw' => ez w' hw'⟩, ?_⟩
             | ((with_reducible show CallEv _ _ 66 _ _ _ _ _); refine callE (k := 66) (fun β w' hbw => h66c w' hbw) ?_)
           all_goals first | (exfalso; omega) | exact ⟨fun β => congrArg Value.bool hVf, fun w' h => h⟩
         · have hnx : ∀ d' < d + 1, AO k d' ≤ tbO (R.map Iw.xs) k d' := fun d' hd' => by
            rcases (by omega : d' < d ∨ d' = d) with hd' | rfl
            · exact hged d' hd'
            · omega
           generalize hA : AO k d = A at *
           repeat'
            conv => whnf
            first
             | refine zA ?_ | refine zB ?_ | refine zC ?_ | refine zD ?_ | refine zE ?_ | refine zF ?_ | refine zG ?_ | refine zH ?_ | refine zJ ?_ | refine zI ?_ | refine splT ?_ | refine splF ?_ | refine splNot ?_
             | ((first | refine splIn ?_ ?_ | refine splD ?_ ?_ | refine splE ?_ ?_ | refine splNE ?_ ?_) <;> intro hc <;> first | (exfalso; omega) | (exfalso; dsimp only at hc; omega) | skip)
             | refine Exists.intro (α := List Value) [iv z] ⟨⟨rfl, fun w' hw' => ez w' hw'⟩, ?_⟩
             | ((with_reducible show CallEv _ _ 66 _ _ _ _ _); refine callE (k := 66) (fun β w' hbw => h66c w' hbw) ?_)
           all_goals first | (exfalso; omega) | exact ⟨d + 1, ⟨by omega, hnx⟩, by omega, Ent.weak rfl ⟨rfl, rfl, rfl, rfl, rfl, rfl, rfl, rfl, rfl, rfl, rfl, trivial⟩ ⟨rfl, trivial⟩ fun _ h => h⟩
       · have hnx : ∀ a < k + 1, ∀ d < nd + 1, AO a d ≤ tbO (R.map Iw.xs) a d := fun a ha d' hd' => by
          rcases (by omega : a < k ∨ a = k) with ha | rfl
          · exact hge a ha d' hd'
          · exact hged d' (by omega)
         repeat'
          conv => whnf
          first
           | refine zA ?_ | refine zB ?_ | refine zC ?_ | refine zD ?_ | refine zE ?_ | refine zF ?_ | refine zG ?_ | refine zH ?_ | refine zJ ?_ | refine zI ?_ | refine splT ?_ | refine splF ?_ | refine splNot ?_
           | ((first | refine splIn ?_ ?_ | refine splD ?_ ?_ | refine splE ?_ ?_ | refine splNE ?_ ?_) <;> intro hc <;> first | (exfalso; omega) | (exfalso; dsimp only at hc; omega) | skip)
         all_goals first | (exfalso; omega) | exact ⟨k + 1, ⟨by omega, hnx⟩, by omega, Ent.weak rfl ⟨rfl, rfl, rfl, rfl, rfl, rfl, rfl, trivial⟩ ⟨rfl, trivial⟩ fun _ h => h⟩
     · obtain rfl : k = R.length := by omega
       obtain ⟨r, hr⟩ : ∃ r, R[0]? = some r := ⟨_, List.getElem?_eq_getElem (by omega)⟩
       have hxl := hrn _ (List.mem_of_getElem? hr)
       obtain ⟨z, hz⟩ : ∃ z, r.xs[0]? = some z := ⟨_, List.getElem?_eq_getElem (by omega)⟩
       have hzb := hrb r.xs (List.mem_map.2 ⟨_, List.mem_of_getElem? hr, rfl⟩) z (List.mem_of_getElem? hz)
       have h67 := h67' r z hr (by omega) hz (by omega)
       have hbd : bdO F (R.map Iw.xs) = smO F z := by unfold bdO tbO; rw [List.getElem?_map, hr, Option.map_some, Option.getD_some, hz]; rfl
       have hVd : decide (smO F z = bound) = V := by
        rw [Bool.eq_iff_iff, hiff, decide_eq_true_eq, ← hbd]
        refine ⟨fun hb => ⟨by rw [List.length_map]; exact hRn2, fun q hq => ?_, fun a ha d hd => hge a (by omega) d hd, hb⟩, fun hh => hh.2.2.2⟩
        obtain ⟨r', hr', rfl⟩ := List.mem_map.1 hq
        exact ⟨hrn r' hr', fun n hn => hrb r'.xs hq n hn⟩
       rw [← hVd]
       clear hVd hbd
       repeat'
        conv => whnf
        first
         | refine zA ?_ | refine zB ?_ | refine zC ?_ | refine zD ?_ | refine zE ?_ | refine zF ?_ | refine zG ?_ | refine zH ?_ | refine zJ ?_ | refine zI ?_ | refine splT ?_ | refine splF ?_ | refine splNot ?_
         | ((first | refine splIn ?_ ?_ | refine splD ?_ ?_ | refine splE ?_ ?_ | refine splNE ?_ ?_) <;> intro hc <;> first | (exfalso; omega) | (exfalso; dsimp only at hc; omega) | skip)
         | ((with_reducible show CallEv _ _ 67 _ _ _ _ _); refine callE (k := 67) (fun β w' hbw => h67 w' hbw) ?_)
       all_goals first | (exfalso; omega) | exact ⟨fun β => rfl, fun w' h => h⟩
 · have hno : ((toB x.d && feB x.T.length F) && shO x.d F bound (R.map Iw.xs)) = false := by
    cases hc : ((toB x.d && feB x.T.length F) && shO x.d F bound (R.map Iw.xs)) with
    | false => rfl
    | true =>
     rw [Bool.and_eq_true, Bool.and_eq_true, shO_iff] at hc
     refine absurd ⟨hc.1.1, hc.1.2, ?_⟩ hok
     have := hc.2.1
     simpa [Tr.d] using this
   rw [hno]
   have h65 := fun (hT : 1 ≤ x.T.length) w' (hb : Below w.heap.size w w') => fees_ok x fo fc F w' (hF.below hb) hFl hT
   have hnT := fun (hto : toB x.d = true) => (toB_n hto).n
   rw [show x.d.T.length = x.T.length from List.length_map ..] at hnT
   have htl := h.tl
   cases hto : toB x.d with
   | false =>
    rw [hto] at hv
    clear h hno hok h65 hnT hto
    obtain ⟨days, shift, size, to, tc, T, lo, lc, L⟩ := x
    refine calls_val env mixed Try.func43 has43 Try.ntmps43 [.agg #[iv days, iv shift, iv size, .slice to T.length tc, .slice lo L.length lc], .slice fo F.length fc, iv bound, .slice bo R.length bc] (by simp) ?_
    repeat'
     conv => whnf
     first
      | refine zA ?_ | refine zB ?_ | refine zC ?_ | refine zD ?_ | refine zE ?_ | refine zF ?_ | refine zG ?_ | refine zH ?_ | refine zJ ?_ | refine zI ?_ | refine splT ?_ | refine splF ?_ | refine splNot ?_
      | ((first | refine splIn ?_ ?_ | refine splD ?_ ?_ | refine splE ?_ ?_ | refine splNE ?_ ?_) <;> intro hc <;> first | (exfalso; omega) | (exfalso; dsimp only at hc; omega) | skip)
      | ((with_reducible show CallEv _ _ 56 _ _ _ _ _); refine callE (k := 56) (fun β w' hbw => hv w' hbw) ?_)
    all_goals first | (exfalso; omega) | exact ⟨fun β => rfl, fun w' h => h⟩
   | true =>
    rw [hto] at hv
    have hT2 := hnT hto
    have h65' := h65 (by omega)
    obtain ⟨vf, hvf⟩ : ∃ v, feB x.T.length F = v := ⟨_, rfl⟩
    rw [hvf] at h65'
    have hR2 : vf = true → R.length ≠ x.T.length := fun e hc => hok ⟨hto, by rw [hvf, e], hc⟩
    clear h hno hok h65 hnT hto hvf
    obtain ⟨days, shift, size, to, tc, T, lo, lc, L⟩ := x
    dsimp only at hT2 hR2 htl
    cases vf with
    | false =>
     refine calls_val env mixed Try.func43 has43 Try.ntmps43 [.agg #[iv days, iv shift, iv size, .slice to T.length tc, .slice lo L.length lc], .slice fo F.length fc, iv bound, .slice bo R.length bc] (by simp) ?_
     repeat'
      conv => whnf
      first
       | refine zA ?_ | refine zB ?_ | refine zC ?_ | refine zD ?_ | refine zE ?_ | refine zF ?_ | refine zG ?_ | refine zH ?_ | refine zJ ?_ | refine zI ?_ | refine splT ?_ | refine splF ?_ | refine splNot ?_
       | ((first | refine splIn ?_ ?_ | refine splD ?_ ?_ | refine splE ?_ ?_ | refine splNE ?_ ?_) <;> intro hc <;> first | (exfalso; omega) | (exfalso; dsimp only at hc; omega) | skip)
       | ((with_reducible show CallEv _ _ 56 _ _ _ _ _); refine callE (k := 56) (fun β w' hbw => hv w' hbw) ?_)
       | ((with_reducible show CallEv _ _ 65 _ _ _ _ _); refine callE (k := 65) (fun β w' hbw => h65' w' hbw) ?_)
     all_goals first | (exfalso; omega) | exact ⟨fun β => rfl, fun w' h => h⟩
    | true =>
     have hR3 := hR2 rfl
     refine calls_val env mixed Try.func43 has43 Try.ntmps43 [.agg #[iv days, iv shift, iv size, .slice to T.length tc, .slice lo L.length lc], .slice fo F.length fc, iv bound, .slice bo R.length bc] (by simp) ?_
     repeat'
      conv => whnf
      first
       | refine zA ?_ | refine zB ?_ | refine zC ?_ | refine zD ?_ | refine zE ?_ | refine zF ?_ | refine zG ?_ | refine zH ?_ | refine zJ ?_ | refine zI ?_ | refine splT ?_ | refine splF ?_ | refine splNot ?_
       | ((first | refine splIn ?_ ?_ | refine splD ?_ ?_ | refine splE ?_ ?_ | refine splNE ?_ ?_) <;> intro hc <;> first | (exfalso; omega) | (exfalso; dsimp only at hc; omega) | skip)
       | ((with_reducible show CallEv _ _ 56 _ _ _ _ _); refine callE (k := 56) (fun β w' hbw => hv w' hbw) ?_)
       | ((with_reducible show CallEv _ _ 65 _ _ _ _ _); refine callE (k := 65) (fun β w' hbw => h65' w' hbw) ?_)
     all_goals first | (exfalso; omega) | exact ⟨fun β => rfl, fun w' h => h⟩
end Go.Proofs.Ythfabodamhdhaaa
