/- Small tours; ranges said in the program's types: what Small and Ranges return. -/
import Derived.Test.YthfabodamhdhaaaTE
namespace Go.Proofs.Ythfabodamhdhaaa
open Go Tx Go.RowKit
set_option linter.unusedSimpArgs false
set_option linter.unusedVariables false
def smB (x : To) : Bool := x.T.all (fun t => decide (t.O.length ≤ 5) && decide (t.R.length ≤ 5)) && (x.L.all (fun r => decide (r.length ≤ 12)) && (decide (x.T.length ≤ 12) && decide (x.L.length ≤ 12)))
structure TrB (x : Tr) : Prop where
 t : ∀ t ∈ x.T, t.d.O.length ≤ 100 ∧ t.d.R.length ≤ 100
 l : ∀ r ∈ x.L, r.L.length ≤ 100
 tl : x.T.length ≤ 100
 ll : x.L.length ≤ 100
theorem TrI0.b {x : Tr} {w : World} (h : TrI0 x w) (hb : TrB x) : TrIn x w :=
 ⟨h.t, fun t ht => ⟨(h.ti t ht).o, (h.ti t ht).r, by have := hb.t t ht; omega, by have := hb.t t ht; omega⟩, h.l, h.li, by have := hb.tl; omega, by have := hb.ll; omega, fun r hr => by have := hb.l r hr; omega, h.tcap⟩
theorem smB_b {x : Tr} (h : smB x.d = true) : TrB x := by
 simp only [smB, Tr.d, Bool.and_eq_true, decide_eq_true_eq, List.all_eq_true, List.length_map, List.mem_map, forall_exists_index, and_imp, forall_apply_eq_imp_iff₂] at h
 exact ⟨fun t ht => by have := h.1 t ht; omega, fun r hr => by have := h.2.1 r hr; omega, by omega, by omega⟩
theorem toB_b {x : Tr} (h : toB x.d = true) : TrB x := by
 have hn := toB_n h
 obtain ⟨days, shift, size, to, tc, T, lo, lc, L⟩ := x
 have h0 := (toB_iff days shift size to tc T lo lc L).1 h
 have h9 := hn.n
 have hl := hn.l
 simp only [Tr.d, List.length_map] at h9 hl
 refine ⟨fun t ht => ?_, fun r hr => ?_, by show T.length ≤ 100; omega, by show L.length ≤ 100; omega⟩
 · obtain ⟨k, hk⟩ := List.mem_iff_getElem?.1 ht
   have hkl := (List.getElem?_eq_some_iff.1 hk).1
   rcases (h0.2.2 k hkl).1 with rfl | ⟨t', h1, h2⟩
   · obtain ⟨t', h1, h2⟩ := h0.2.1
     rw [hk, Option.some.injEq] at h1
     subst h1
     simp only [quB, Bool.and_eq_true, decide_eq_true_eq] at h2
     omega
   · rw [hk, Option.some.injEq] at h1
     subst h1
     simp only [twB, inB, Bool.and_eq_true, decide_eq_true_eq] at h2
     omega
 · have := hn.lr r.L (List.mem_map.2 ⟨r, hr, rfl⟩)
   have h3 := this.1
   simp only [Tr.d, List.length_map] at h3
   omega
set_option maxHeartbeats 4000000 in
set_option maxRecDepth 100000 in
theorem Small_ok (x : Tr) (w : World) (h : TrI0 x w) : Calls Try.prog 17 #[x.v] w fun e w' => e = .returned (.bool (smB x.d)) ∧ Below w.heap.size w w' := by
 obtain ⟨days, shift, size, to, tc, T, lo, lc, L⟩ := x
 obtain ⟨hT, hTi, hL, hLi, htl, hll, hlr, htc⟩ := h
 dsimp only at hT hTi hL hLi htl hll hlr htc ⊢
 have hsm : smB (Tr.d ⟨days, shift, size, to, tc, T, lo, lc, L⟩) = (T.all (fun t => decide (t.d.O.length ≤ 5) && decide (t.d.R.length ≤ 5)) && (L.all (fun r => decide (r.L.length ≤ 12)) && (decide ((T.length : Int) ≤ 12) && decide ((L.length : Int) ≤ 12)))) := by
  simp only [smB, Tr.d, List.length_map, List.all_map, Function.comp_def]
  congr 3
  · exact decide_eq_decide.2 (by omega)
  · exact decide_eq_decide.2 (by omega)
 rw [hsm]
 clear hsm
 refine calls_val env mixed Try.func17 has17 Try.ntmps17 [.agg #[iv days, iv shift, iv size, .slice to T.length tc, .slice lo L.length lc]] (by simp) ?_
 repeat'
  conv => whnf
  first
   | refine zA ?_ | refine zB ?_ | refine zC ?_ | refine zD ?_ | refine zE ?_ | refine zF ?_ | refine zG ?_ | refine zH ?_ | refine zJ ?_ | refine zI ?_ | refine splT ?_ | refine splF ?_ | refine splNot ?_
   | ((first | refine splIn ?_ ?_ | refine splD ?_ ?_ | refine splE ?_ ?_ | refine splNE ?_ ?_) <;> intro hc <;> first | (exfalso; omega) | (exfalso; dsimp only at hc; omega) | skip)
 refine loopE (fun i : Nat => [(1, .ptr 0 0), (3, .v (iv i))]) (fun _ => [(0, .cells [.v (iv days), .v (iv shift), .v (iv size), .v (.slice to T.length tc), .v (.slice lo L.length lc)] 25)])
  (fun i => i ≤ T.length ∧ (T.take i).all (fun t => decide (t.d.O.length ≤ 5) && decide (t.d.R.length ≤ 5)) = true) (fun i => T.length - i) 0 ⟨Nat.zero_le _, rfl⟩ ⟨rfl, rfl, trivial⟩ ⟨rfl, trivial⟩ (fun _ => ⟨rfl, rfl⟩) ?_
 intro i ⟨hi, hall⟩
 rcases Nat.lt_or_ge i T.length with hil | hil
 · obtain ⟨⟨oo, oc, ro, rc, O, s1, s2, pay, lot, rent, R, cold, cut⟩, ht⟩ : ∃ t, T[i]? = some t := ⟨_, List.getElem?_eq_getElem hil⟩
   obtain ⟨_, ad, rfl, _⟩ := hT.ptr (by omega)
   have e0 := fun (w' : World) hw' => rd_fldz (hT.below (w' := w') hw') ht _ rfl 0 (.slice oo O.length oc) rfl
   have e5 := fun (w' : World) hw' => rd_fldz (hT.below (w' := w') hw') ht _ rfl 6 (.slice ro R.length rc) rfl
   have hti := hTi _ (List.mem_of_getElem? ht)
   have hol := hti.ol
   have hrl := hti.rl
   dsimp only at hol hrl
   have hat := all_take (p := fun t : Tn => decide (t.d.O.length ≤ 5) && decide (t.d.R.length ≤ 5)) ht
   rw [hall, Bool.true_and] at hat
   have hno := all_no (p := fun t : Tn => decide (t.d.O.length ≤ 5) && decide (t.d.R.length ≤ 5)) ht
   by_cases hok : O.length ≤ 5 ∧ R.length ≤ 5
   · rw [show (decide (O.length ≤ 5) && decide (R.length ≤ 5)) = true from by simp; omega] at hat
     repeat'
      conv => whnf
      first
       | refine zA ?_ | refine zB ?_ | refine zC ?_ | refine zD ?_ | refine zE ?_ | refine zF ?_ | refine zG ?_ | refine zH ?_ | refine zJ ?_ | refine zI ?_ | refine splT ?_ | refine splF ?_ | refine splNot ?_
       | ((first | refine splIn ?_ ?_ | refine splD ?_ ?_ | refine splE ?_ ?_ | refine splNE ?_ ?_) <;> intro hc <;> first | (exfalso; omega) | (exfalso; dsimp only at hc; omega) | skip)
       | refine Exists.intro (α := List Value) [.slice oo O.length oc] ⟨⟨rfl, fun w' hw' => e0 w' hw'⟩, ?_⟩
       | refine Exists.intro (α := List Value) [.slice ro R.length rc] ⟨⟨rfl, fun w' hw' => e5 w' hw'⟩, ?_⟩
     all_goals first | (exfalso; omega) | exact ⟨i + 1, ⟨by omega, hat⟩, by omega, Ent.weak rfl ⟨rfl, rfl, trivial⟩ ⟨rfl, trivial⟩ fun _ h => h⟩
   · rw [hno (by (cases hb : (decide (O.length ≤ 5) && decide (R.length ≤ 5)) with | false => rfl | true => (simp at hb; exact absurd hb hok))), Bool.false_and]
     repeat'
      conv => whnf
      first
       | refine zA ?_ | refine zB ?_ | refine zC ?_ | refine zD ?_ | refine zE ?_ | refine zF ?_ | refine zG ?_ | refine zH ?_ | refine zJ ?_ | refine zI ?_ | refine splT ?_ | refine splF ?_ | refine splNot ?_
       | ((first | refine splIn ?_ ?_ | refine splD ?_ ?_ | refine splE ?_ ?_ | refine splNE ?_ ?_) <;> intro hc <;> first | (exfalso; omega) | (exfalso; dsimp only at hc; omega) | skip)
       | refine Exists.intro (α := List Value) [.slice oo O.length oc] ⟨⟨rfl, fun w' hw' => e0 w' hw'⟩, ?_⟩
       | refine Exists.intro (α := List Value) [.slice ro R.length rc] ⟨⟨rfl, fun w' hw' => e5 w' hw'⟩, ?_⟩
     all_goals first | (exfalso; omega) | exact ⟨fun β => rfl, fun w' h => h⟩
 · rw [List.take_of_length_le hil] at hall
   rw [hall, Bool.true_and]
   repeat'
    conv => whnf
    first
     | refine zA ?_ | refine zB ?_ | refine zC ?_ | refine zD ?_ | refine zE ?_ | refine zF ?_ | refine zG ?_ | refine zH ?_ | refine zJ ?_ | refine zI ?_ | refine splT ?_ | refine splF ?_ | refine splNot ?_
     | ((first | refine splIn ?_ ?_ | refine splD ?_ ?_ | refine splE ?_ ?_ | refine splNE ?_ ?_) <;> intro hc <;> first | (exfalso; omega) | (exfalso; dsimp only at hc; omega) | skip)
   all_goals first | (exfalso; omega) | skip
   refine loopE (fun i : Nat => [(1, .ptr 0 0), (4, .v (iv i))]) (fun _ => [(0, .cells [.v (iv days), .v (iv shift), .v (iv size), .v (.slice to T.length tc), .v (.slice lo L.length lc)] 25)])
    (fun i => i ≤ L.length ∧ (L.take i).all (fun r => decide (r.L.length ≤ 12)) = true) (fun i => L.length - i) 0 ⟨Nat.zero_le _, rfl⟩ ⟨rfl, rfl, trivial⟩ ⟨rfl, trivial⟩ (fun _ => ⟨rfl, rfl⟩) ?_
   intro j ⟨hj, hallj⟩
   rcases Nat.lt_or_ge j L.length with hjl | hjl
   · obtain ⟨⟨ro, rc, row⟩, hr⟩ : ∃ r, L[j]? = some r := ⟨_, List.getElem?_eq_getElem hjl⟩
     obtain ⟨_, al, rfl, _⟩ := hL.ptr (by omega)
     have e0 := fun (w' : World) hw' => rd_ati (hL.below (w' := w') hw') hr
     have hrl := hlr _ (List.mem_of_getElem? hr)
     dsimp only at hrl
     have hat := all_take (p := fun r : Lr => decide (r.L.length ≤ 12)) hr
     rw [hallj, Bool.true_and] at hat
     have hno := all_no (p := fun r : Lr => decide (r.L.length ≤ 12)) hr
     by_cases hok : row.length ≤ 12
     · rw [decide_eq_true hok] at hat
       repeat'
        conv => whnf
        first
         | refine zA ?_ | refine zB ?_ | refine zC ?_ | refine zD ?_ | refine zE ?_ | refine zF ?_ | refine zG ?_ | refine zH ?_ | refine zJ ?_ | refine zI ?_ | refine splT ?_ | refine splF ?_ | refine splNot ?_
         | ((first | refine splIn ?_ ?_ | refine splD ?_ ?_ | refine splE ?_ ?_ | refine splNE ?_ ?_) <;> intro hc <;> first | (exfalso; omega) | (exfalso; dsimp only at hc; omega) | skip)
         | refine Exists.intro (α := List Value) [.slice ro row.length rc] ⟨⟨rfl, fun w' hw' => e0 w' hw'⟩, ?_⟩
       all_goals first | (exfalso; omega) | exact ⟨j + 1, ⟨by omega, hat⟩, by omega, Ent.weak rfl ⟨rfl, rfl, trivial⟩ ⟨rfl, trivial⟩ fun _ h => h⟩
     · rw [hno (decide_eq_false hok), Bool.false_and]
       repeat'
        conv => whnf
        first
         | refine zA ?_ | refine zB ?_ | refine zC ?_ | refine zD ?_ | refine zE ?_ | refine zF ?_ | refine zG ?_ | refine zH ?_ | refine zJ ?_ | refine zI ?_ | refine splT ?_ | refine splF ?_ | refine splNot ?_
         | ((first | refine splIn ?_ ?_ | refine splD ?_ ?_ | refine splE ?_ ?_ | refine splNE ?_ ?_) <;> intro hc <;> first | (exfalso; omega) | (exfalso; dsimp only at hc; omega) | skip)
         | refine Exists.intro (α := List Value) [.slice ro row.length rc] ⟨⟨rfl, fun w' hw' => e0 w' hw'⟩, ?_⟩
       all_goals first | (exfalso; omega) | exact ⟨fun β => rfl, fun w' h => h⟩
   · rw [List.take_of_length_le hjl] at hallj
     rw [hallj, Bool.true_and]
     repeat'
      conv => whnf
      first
       | refine zA ?_ | refine zB ?_ | refine zC ?_ | refine zD ?_ | refine zE ?_ | refine zF ?_ | refine zG ?_ | refine zH ?_ | refine zJ ?_ | refine zI ?_ | refine splT ?_ | refine splF ?_ | refine splNot ?_
       | ((first | refine splIn ?_ ?_ | refine splD ?_ ?_ | refine splE ?_ ?_ | refine splNE ?_ ?_) <;> intro hc <;> first | (exfalso; omega) | (exfalso; dsimp only at hc; omega) | skip)
     all_goals first | (exfalso; omega) | exact ⟨fun β => congrArg Value.bool (by simp [*]), fun w' h => h⟩
set_option maxHeartbeats 4000000 in
set_option maxRecDepth 100000 in
theorem ranges_ok (L : List (Int × Int)) (o : Option Addr) (c : Nat) (w : World) (hrd : Rd 2 prF (.slice o L.length c) L w) (hl : L.length ≤ 1000) :
 Calls Try.prog 60 #[.slice o L.length c] w fun e w' => (L = [] → e = .returned (.slice none 0 0) ∧ Below w.heap.size w w') ∧ (L ≠ [] → ∃ b d, e = .returned (.slice (some ⟨b, 0, none⟩) L.length d) ∧ w.heap.size ≤ b ∧ Below w.heap.size w w' ∧ w'.ownsRow 0 55 2 (.slice (some ⟨b, 0, none⟩) L.length d) L.length (L.flatMap prF)) := by
 refine calls_fam2 env mixed Try.func60 has60 Try.ntmps60 [.slice o L.length c] (by simp) ?_
 repeat'
  conv => whnf
  first
   | refine zA ?_ | refine zB ?_ | refine zC ?_ | refine zD ?_ | refine zE ?_ | refine zF ?_ | refine zG ?_ | refine zH ?_ | refine zJ ?_ | refine zI ?_ | refine splT ?_ | refine splF ?_ | refine splNot ?_
   | ((first | refine splIn ?_ ?_ | refine splD ?_ ?_ | refine splE ?_ ?_ | refine splNE ?_ ?_) <;> intro hc <;> first | (exfalso; omega) | (exfalso; dsimp only at hc; omega) | skip)
 refine loopN 2 (fun k : Nat => [(0, .v (.slice o L.length c)), (3, oSV 0 1 (L.take k)), (4, .v (iv k))]) (fun k => oM 0 1 2 prF 55 (L.take k)) (fun k => k ≤ L.length) (fun k => L.length - k) 0 (Nat.zero_le _) ⟨rfl, rfl, rfl, trivial⟩ trivial (fun k _ => by cases L.take k <;> exact ⟨rfl, rfl⟩) ?_
 intro k hk
 rcases Nat.lt_or_ge k L.length with hkl | hkl
 · obtain ⟨⟨p1, p2⟩, hx⟩ : ∃ b, L[k]? = some b := ⟨_, List.getElem?_eq_getElem hkl⟩
   obtain ⟨_, ad, rfl, _⟩ := hrd.ptr (by omega)
   have e0 := fun (w' : World) hw' => rd_fldz (hrd.below (w' := w') hw') hx _ rfl 0 (iv p1) rfl
   have e1 := fun (w' : World) hw' => rd_fldz (hrd.below (w' := w') hw') hx _ rfl 1 (iv p2) rfl
   have ht : L.take (k + 1) = L.take k ++ [(p1, p2)] := by rw [List.take_add_one, hx]; rfl
   have hlen : (L.take k).length = k := by rw [List.length_take]; omega
   generalize L.take k = D at *
   cases D with
   | nil =>
    repeat'
     conv => whnf
     first
      | refine zA ?_ | refine zB ?_ | refine zC ?_ | refine zD ?_ | refine zE ?_ | refine zF ?_ | refine zG ?_ | refine zH ?_ | refine zJ ?_ | refine zI ?_ | refine splT ?_ | refine splF ?_ | refine splNot ?_
      | ((first | refine splIn ?_ ?_ | refine splD ?_ ?_ | refine splE ?_ ?_ | refine splNE ?_ ?_) <;> intro hc <;> first | (exfalso; omega) | (exfalso; dsimp only at hc; omega) | skip)
      | refine Exists.intro (α := List Value) [iv p1] ⟨⟨rfl, fun w' hw' => e0 w' hw'⟩, ?_⟩
      | refine Exists.intro (α := List Value) [iv p2] ⟨⟨rfl, fun w' hw' => e1 w' hw'⟩, ?_⟩
    all_goals first | (exfalso; omega) | exact ⟨k + 1, by omega, by omega, Ent.ren (rho [(0, 3), (1, 4)]) rfl (by rw [ht]; rfl) ⟨rfl, by rw [ht]; rfl, rfl, trivial⟩ (by rw [ht]; exact ⟨rfl, trivial⟩) fun _ h => h⟩
   | cons a D =>
    simp only [List.length_cons] at hlen
    repeat'
     conv => whnf
     first
      | refine zA ?_ | refine zB ?_ | refine zC ?_ | refine zD ?_ | refine zE ?_ | refine zF ?_ | refine zG ?_ | refine zH ?_ | refine zJ ?_ | refine zI ?_ | refine splT ?_ | refine splF ?_ | refine splNot ?_
      | ((first | refine splIn ?_ ?_ | refine splD ?_ ?_ | refine splE ?_ ?_ | refine splNE ?_ ?_) <;> intro hc <;> first | (exfalso; omega) | (exfalso; dsimp only at hc; omega) | skip)
      | refine Exists.intro (α := List Value) [iv p1] ⟨⟨rfl, fun w' hw' => e0 w' hw'⟩, ?_⟩
      | refine Exists.intro (α := List Value) [iv p2] ⟨⟨rfl, fun w' hw' => e1 w' hw'⟩, ?_⟩
    all_goals first | (exfalso; omega) | exact ⟨k + 1, by omega, by omega, Ent.ren (rho [(0, 3), (1, 4)]) rfl (by rw [ht]; rfl) ⟨rfl, by rw [ht]; simp [oSV]; rfl, rfl, trivial⟩ (by rw [ht]; exact ⟨by simp [oM]; rfl, trivial⟩) fun _ h => h⟩
 · obtain rfl : k = L.length := by omega
   rw [List.take_length]
   cases L with
   | nil =>
    repeat'
     conv => whnf
     first
      | refine zA ?_ | refine zB ?_ | refine zC ?_ | refine zD ?_ | refine zE ?_ | refine zF ?_ | refine zG ?_ | refine zH ?_ | refine zJ ?_ | refine zI ?_ | refine splT ?_ | refine splF ?_ | refine splNot ?_
      | ((first | refine splIn ?_ ?_ | refine splD ?_ ?_ | refine splE ?_ ?_ | refine splNE ?_ ?_) <;> intro hc <;> first | (exfalso; omega) | (exfalso; dsimp only at hc; omega) | skip)
    all_goals first | (exfalso; omega) | exact ⟨fun w' h => h, fun β w' hB hB2 hblk => ⟨fun _ => ⟨rfl, hB2⟩, fun h => absurd rfl h⟩⟩
   | cons a D =>
    repeat'
     conv => whnf
     first
      | refine zA ?_ | refine zB ?_ | refine zC ?_ | refine zD ?_ | refine zE ?_ | refine zF ?_ | refine zG ?_ | refine zH ?_ | refine zJ ?_ | refine zI ?_ | refine splT ?_ | refine splF ?_ | refine splNot ?_
      | ((first | refine splIn ?_ ?_ | refine splD ?_ ?_ | refine splE ?_ ?_ | refine splNE ?_ ?_) <;> intro hc <;> first | (exfalso; omega) | (exfalso; dsimp only at hc; omega) | skip)
    all_goals first | (exfalso; omega) | exact ⟨fun w' h => h, fun β w' hB hB2 hblk => ⟨(fun h => by cases h), fun _ => ⟨β 0, β 1, rfl, (hblk 0 _ rfl rfl).1, hB2, (hblk 0 _ rfl rfl).2⟩⟩⟩
end Go.Proofs.Ythfabodamhdhaaa
