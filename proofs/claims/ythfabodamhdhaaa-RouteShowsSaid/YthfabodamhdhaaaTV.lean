/- Tables that show a bound, by the reference: what Shows returns. -/
import Derived.Test.YthfabodamhdhaaaTR
import Derived.Test.YthfabodamhdhaaaTO
namespace Go.Proofs.Ythfabodamhdhaaa
open Go Tx Go.RowKit
set_option linter.unusedSimpArgs false
set_option linter.unusedVariables false

set_option maxHeartbeats 8000000 in
set_option maxRecDepth 100000 in
theorem rshows_ok (x : Tr) (fo : Option Addr) (fc : Nat) (F : List Int) (bound : Int) (bo : Option Addr) (bc : Nat) (R : List Iw) (w : World) (h : TrIn x w) (hF : Rd 1 iF (.slice fo F.length fc) F w) (hto : toB x.d = true) (hfe : feB x.T.length F = true)
    (hR : Rd 1 Iw.cs (.slice bo R.length bc) R w) (hRr : ∀ r ∈ R, Rd 1 iF (.slice r.o r.xs.length r.c) r.xs w) (hRl : R.length ≤ 1000000) (hRn : ∀ r ∈ R, r.xs.length ≤ 1000000) :
    Calls Try.prog 45 #[x.v, .slice fo F.length fc, iv bound, .slice bo R.length bc] w fun e w' => e = .returned (.bool (shO x.d F bound (R.map Iw.xs))) ∧ Below w.heap.size w w' := by
  obtain ⟨hFn, hFb⟩ := feB_n hfe
  have hn := toB_n hto
  have hday := hn.d
  have hnT := hn.n
  have hlen : x.d.T.length = x.T.length := List.length_map ..
  rw [hlen] at hnT
  have hiff := shO_iff (x := x.d) (F := F) (b := bound) (R := R.map Iw.xs)
  obtain ⟨V, hV⟩ : ∃ V, shO x.d F bound (R.map Iw.xs) = V := ⟨_, rfl⟩
  rw [hV] at hiff ⊢
  clear hV
  have hdx : x.d.days = x.days := rfl
  rw [hdx] at hday
  rw [hlen, hdx, List.length_map] at hiff
  by_cases hRn2 : R.length = x.T.length
  · have h68' := fun (a d : Nat) (hrn : ∀ r ∈ R, r.xs.length = x.days.toNat + 1) (hrb : TbB 1000000000000 (R.map Iw.xs)) (ha : a < x.T.length) (hd : d ≤ x.days.toNat) w' (hb : Below w.heap.size w w') => rasked_ok x fo fc F bo bc R 1000000000000 a d w' (h.below hb) hn (hF.below hb) hFb hFn (hR.below hb) (fun r hr => (hRr r hr).below hb) hRn2 hrn hrb (by omega) ha hd
    have h32' := fun (r : Iw) (z : Int) (hr : R[0]? = some r) (hz : r.xs[0]? = some z) (hzb : -5000000000000 ≤ z ∧ z ≤ 5000000000000) w' (hb : Below w.heap.size w w') => rbound_ok fo fc F bo bc R r z w' (hF.below hb) (by omega) hFb (hR.below hb) hr ((hRr r (List.mem_of_getElem? hr)).below hb) hz hzb hRl (hRn r (List.mem_of_getElem? hr))
    have hAb := fun (hrb : TbB 1000000000000 (R.map Iw.xs)) a d => asO_bd hn hFb hrb (by omega) a d
    clear h hn hto hfe
    obtain ⟨days, shift, size, to, tc, T, lo, lc, L⟩ := x
    dsimp only at hnT hday hRn2 hFn h68' hiff
    obtain ⟨nd, rfl⟩ : ∃ nd : Nat, days = nd := ⟨days.toNat, by omega⟩
    rw [Int.toNat_natCast] at h68' hiff
    obtain ⟨_, fa, rfl, _⟩ := hF.ptr (by omega)
    obtain ⟨_, ba, rfl, _⟩ := hR.ptr (by omega)
    have erow := fun (w' : World) (hb : Below w.heap.size w w') k r (hr : R[k]? = some r) => rd_ati (hR.below hb) hr
    generalize hAO : (fun a d => asO (Tr.d ⟨(nd : Int), shift, size, to, tc, T, lo, lc, L⟩) F (R.map Iw.xs) a d) = AO at *
    have hAO2 : ∀ a d, asO (Tr.d ⟨(nd : Int), shift, size, to, tc, T, lo, lc, L⟩) F (R.map Iw.xs) a d = AO a d := fun a d => by rw [← hAO]
    simp only [hAO2] at hiff h68' hAb
    clear hAO hAO2
    refine calls_val env mixed Try.func45 has45 Try.ntmps45 [.agg #[iv nd, iv shift, iv size, .slice to T.length tc, .slice lo L.length lc], .slice (some fa) F.length fc, iv bound, .slice (some ba) R.length bc] (by simp) ?_
    repeat'
     conv => whnf
     first
      | refine zA ?_ | refine zB ?_ | refine zC ?_ | refine zD ?_ | refine zE ?_ | refine zF ?_ | refine zG ?_ | refine zH ?_ | refine zJ ?_ | refine zI ?_ | refine splT ?_ | refine splF ?_ | refine splNot ?_
      | ((first | refine splIn (fun hc => ?_) (fun hc => ?_) | refine splD (fun hc => ?_) (fun hc => ?_) | refine splE (fun hc => ?_) (fun hc => ?_) | refine splNE (fun hc => ?_) (fun hc => ?_)) <;> first | (exfalso; omega) | (exfalso; dsimp only at hc; omega) | skip)
    all_goals first | (exfalso; omega) | skip
    refine loopE (fun k : Nat => [(1, .v (.slice (some fa) F.length fc)), (2, .v (iv bound)), (3, .v (.slice (some ba) R.length bc)), (4, .ptr 0 0), (9, .v (iv k))]) (fun _ => [(0, .cells [.v (iv nd), .v (iv shift), .v (iv size), .v (.slice to T.length tc), .v (.slice lo L.length lc)] 25)]) (fun k => k ≤ R.length ∧ ∀ j < k, ∀ r, R[j]? = some r → r.xs.length = nd + 1 ∧ ∀ n ∈ r.xs, -1000000000000 ≤ n ∧ n ≤ 1000000000000) (fun k => R.length - k) 0 ⟨Nat.zero_le _, fun j hj => by omega⟩ ⟨rfl, rfl, rfl, rfl, rfl, trivial⟩ ⟨rfl, trivial⟩ (fun _ => ⟨rfl, rfl⟩) ?_
    intro k ⟨hk, hall⟩
    rcases Nat.lt_or_ge k R.length with hkl | hkl
    · obtain ⟨⟨ro, rc, xs⟩, hr⟩ : ∃ r, R[k]? = some r := ⟨_, List.getElem?_eq_getElem hkl⟩
      have e1 := fun (w' : World) hb => erow w' hb k _ hr
      have hm := List.mem_of_getElem? hr
      have hrd := hRr _ hm
      have hrn := hRn _ hm
      dsimp only at hrd hrn
      have hVno : ¬ (xs.length = nd + 1 ∧ ∀ n ∈ xs, -1000000000000 ≤ n ∧ n ≤ 1000000000000) → false = V := fun hc => by
        cases V with
        | false => rfl
        | true => exact absurd ((hiff.1 rfl).2.1 xs (List.mem_map.2 ⟨_, hm, rfl⟩)) hc
      by_cases hl1 : xs.length = nd + 1
      · obtain ⟨_, ra, rfl, _⟩ := hrd.ptr (by omega)
        repeat'
         conv => whnf
         first
          | refine zA ?_ | refine zB ?_ | refine zC ?_ | refine zD ?_ | refine zE ?_ | refine zF ?_ | refine zG ?_ | refine zH ?_ | refine zJ ?_ | refine zI ?_ | refine splT ?_ | refine splF ?_ | refine splNot ?_
          | ((first | refine splIn (fun hc => ?_) (fun hc => ?_) | refine splD (fun hc => ?_) (fun hc => ?_) | refine splE (fun hc => ?_) (fun hc => ?_) | refine splNE (fun hc => ?_) (fun hc => ?_)) <;> first | (exfalso; omega) | (exfalso; dsimp only at hc; omega) | skip)
          | refine Exists.intro (α := List Value) [.slice (some ra) xs.length rc] ⟨⟨rfl, fun w' hw' => e1 w' hw'⟩, ?_⟩
        all_goals first | (exfalso; omega) | skip
        refine loopE (fun j : Nat => [(1, .v (.slice (some fa) F.length fc)), (2, .v (iv bound)), (3, .v (.slice (some ba) R.length bc)), (4, .ptr 0 0), (9, .v (iv k)), (10, .v (iv j))]) (fun _ => [(0, .cells [.v (iv nd), .v (iv shift), .v (iv size), .v (.slice to T.length tc), .v (.slice lo L.length lc)] 25)]) (fun j => j ≤ xs.length ∧ ∀ i < j, ∀ n, xs[i]? = some n → -1000000000000 ≤ n ∧ n ≤ 1000000000000) (fun j => xs.length - j) 0 ⟨Nat.zero_le _, fun i hi => by omega⟩ ⟨rfl, rfl, rfl, rfl, rfl, rfl, trivial⟩ ⟨rfl, trivial⟩ (fun _ => ⟨rfl, rfl⟩) ?_
        intro j ⟨hj, hjall⟩
        rcases Nat.lt_or_ge j xs.length with hjl | hjl
        · obtain ⟨z, hz⟩ : ∃ z, xs[j]? = some z := ⟨_, List.getElem?_eq_getElem hjl⟩
          have ez := fun (w' : World) hw' => rd_ati (hrd.below (w' := w') hw') hz
          by_cases hzb : -1000000000000 ≤ z ∧ z ≤ 1000000000000
          · have hnx : ∀ i < j + 1, ∀ n, xs[i]? = some n → -1000000000000 ≤ n ∧ n ≤ 1000000000000 := fun i hi n hn => by
              rcases (by omega : i < j ∨ i = j) with hi | rfl
              · exact hjall i hi n hn
              · rw [hz, Option.some.injEq] at hn; subst hn; exact hzb
            repeat'
             conv => whnf
             first
              | refine zA ?_ | refine zB ?_ | refine zC ?_ | refine zD ?_ | refine zE ?_ | refine zF ?_ | refine zG ?_ | refine zH ?_ | refine zJ ?_ | refine zI ?_ | refine splT ?_ | refine splF ?_ | refine splNot ?_
              | ((first | refine splIn (fun hc => ?_) (fun hc => ?_) | refine splD (fun hc => ?_) (fun hc => ?_) | refine splE (fun hc => ?_) (fun hc => ?_) | refine splNE (fun hc => ?_) (fun hc => ?_)) <;> first | (exfalso; omega) | (exfalso; dsimp only at hc; omega) | skip)
              | refine Exists.intro (α := List Value) [.slice (some ra) xs.length rc] ⟨⟨rfl, fun w' hw' => e1 w' hw'⟩, ?_⟩
              | refine Exists.intro (α := List Value) [iv z] ⟨⟨rfl, fun w' hw' => ez w' hw'⟩, ?_⟩
              | ((with_reducible show CallEv _ _ 37 _ _ _ _ _); refine callE (k := 37) (fun β w' hbw => In_ok _ _ _ w') ?_)
            all_goals first | (exfalso; omega) | exact ⟨j + 1, ⟨by omega, hnx⟩, by omega, Ent.weak rfl ⟨rfl, rfl, rfl, rfl, rfl, rfl, trivial⟩ ⟨rfl, trivial⟩ fun _ h => h⟩
          · have hVf : false = V := hVno fun hc => hzb (hc.2 z (List.mem_of_getElem? hz))
            repeat'
             conv => whnf
             first
              | refine zA ?_ | refine zB ?_ | refine zC ?_ | refine zD ?_ | refine zE ?_ | refine zF ?_ | refine zG ?_ | refine zH ?_ | refine zJ ?_ | refine zI ?_ | refine splT ?_ | refine splF ?_ | refine splNot ?_
              | ((first | refine splIn (fun hc => ?_) (fun hc => ?_) | refine splD (fun hc => ?_) (fun hc => ?_) | refine splE (fun hc => ?_) (fun hc => ?_) | refine splNE (fun hc => ?_) (fun hc => ?_)) <;> first | (exfalso; omega) | (exfalso; dsimp only at hc; omega) | skip)
              | refine Exists.intro (α := List Value) [.slice (some ra) xs.length rc] ⟨⟨rfl, fun w' hw' => e1 w' hw'⟩, ?_⟩
              | refine Exists.intro (α := List Value) [iv z] ⟨⟨rfl, fun w' hw' => ez w' hw'⟩, ?_⟩
              | ((with_reducible show CallEv _ _ 37 _ _ _ _ _); refine callE (k := 37) (fun β w' hbw => In_ok _ _ _ w') ?_)
            all_goals first | (exfalso; omega) | exact ⟨fun β => congrArg Value.bool hVf, fun w' h => h⟩
        · have hnx : ∀ j < k + 1, ∀ r, R[j]? = some r → r.xs.length = nd + 1 ∧ ∀ n ∈ r.xs, -1000000000000 ≤ n ∧ n ≤ 1000000000000 := fun i hi r hr2 => by
            rcases (by omega : i < k ∨ i = k) with hi | rfl
            · exact hall i hi r hr2
            · rw [hr, Option.some.injEq] at hr2
              subst hr2
              exact ⟨hl1, fun n hn => by obtain ⟨q, hq⟩ := List.mem_iff_getElem?.1 hn; exact hjall q (by have hq2 : q < xs.length := (List.getElem?_eq_some_iff.1 hq).1; omega) n hq⟩
          repeat'
           conv => whnf
           first
            | refine zA ?_ | refine zB ?_ | refine zC ?_ | refine zD ?_ | refine zE ?_ | refine zF ?_ | refine zG ?_ | refine zH ?_ | refine zJ ?_ | refine zI ?_ | refine splT ?_ | refine splF ?_ | refine splNot ?_
            | ((first | refine splIn (fun hc => ?_) (fun hc => ?_) | refine splD (fun hc => ?_) (fun hc => ?_) | refine splE (fun hc => ?_) (fun hc => ?_) | refine splNE (fun hc => ?_) (fun hc => ?_)) <;> first | (exfalso; omega) | (exfalso; dsimp only at hc; omega) | skip)
            | refine Exists.intro (α := List Value) [.slice (some ra) xs.length rc] ⟨⟨rfl, fun w' hw' => e1 w' hw'⟩, ?_⟩
          all_goals first | (exfalso; omega) | exact ⟨k + 1, ⟨by omega, hnx⟩, by omega, Ent.weak rfl ⟨rfl, rfl, rfl, rfl, rfl, trivial⟩ ⟨rfl, trivial⟩ fun _ h => h⟩
      · have hVf : false = V := hVno fun hc => hl1 hc.1
        repeat'
         conv => whnf
         first
          | refine zA ?_ | refine zB ?_ | refine zC ?_ | refine zD ?_ | refine zE ?_ | refine zF ?_ | refine zG ?_ | refine zH ?_ | refine zJ ?_ | refine zI ?_ | refine splT ?_ | refine splF ?_ | refine splNot ?_
          | ((first | refine splIn (fun hc => ?_) (fun hc => ?_) | refine splD (fun hc => ?_) (fun hc => ?_) | refine splE (fun hc => ?_) (fun hc => ?_) | refine splNE (fun hc => ?_) (fun hc => ?_)) <;> first | (exfalso; omega) | (exfalso; dsimp only at hc; omega) | skip)
          | refine Exists.intro (α := List Value) [.slice ro xs.length rc] ⟨⟨rfl, fun w' hw' => e1 w' hw'⟩, ?_⟩
        all_goals first | (exfalso; omega) | exact ⟨fun β => congrArg Value.bool hVf, fun w' h => h⟩
    · obtain rfl : k = R.length := by omega
      have hrn : ∀ r ∈ R, r.xs.length = nd + 1 := fun r hr => by
        obtain ⟨j, hj⟩ := List.mem_iff_getElem?.1 hr
        exact (hall j (List.getElem?_eq_some_iff.1 hj).1 r hj).1
      have hrb : TbB 1000000000000 (R.map Iw.xs) := fun q hq n hn => by
        obtain ⟨r, hr, rfl⟩ := List.mem_map.1 hq
        obtain ⟨j, hj⟩ := List.mem_iff_getElem?.1 hr
        exact (hall j (List.getElem?_eq_some_iff.1 hj).1 r hj).2 n hn
      have hrb2 := hAb hrb
      have h68 := fun a d ha hd => h68' a d hrn hrb ha hd
      clear hall
      repeat'
       conv => whnf
       first
        | refine zA ?_ | refine zB ?_ | refine zC ?_ | refine zD ?_ | refine zE ?_ | refine zF ?_ | refine zG ?_ | refine zH ?_ | refine zJ ?_ | refine zI ?_ | refine splT ?_ | refine splF ?_ | refine splNot ?_
        | ((first | refine splIn (fun hc => ?_) (fun hc => ?_) | refine splD (fun hc => ?_) (fun hc => ?_) | refine splE (fun hc => ?_) (fun hc => ?_) | refine splNE (fun hc => ?_) (fun hc => ?_)) <;> first | (exfalso; omega) | (exfalso; dsimp only at hc; omega) | skip)
      all_goals first | (exfalso; omega) | skip
      refine loopE (fun k : Nat => [(1, .v (.slice (some fa) F.length fc)), (2, .v (iv bound)), (3, .v (.slice (some ba) R.length bc)), (4, .ptr 0 0), (11, .v (iv k))]) (fun _ => [(0, .cells [.v (iv nd), .v (iv shift), .v (iv size), .v (.slice to T.length tc), .v (.slice lo L.length lc)] 25)]) (fun k => k ≤ R.length ∧ ∀ a < k, ∀ d < nd + 1, AO a d ≤ tbO (R.map Iw.xs) a d) (fun k => R.length - k) 0 ⟨Nat.zero_le _, fun a ha => by omega⟩ ⟨rfl, rfl, rfl, rfl, rfl, trivial⟩ ⟨rfl, trivial⟩ (fun _ => ⟨rfl, rfl⟩) ?_
      intro k ⟨hk, hge⟩
      rcases Nat.lt_or_ge k R.length with hkl | hkl
      · obtain ⟨⟨ro, rc, xs⟩, hr⟩ : ∃ r, R[k]? = some r := ⟨_, List.getElem?_eq_getElem hkl⟩
        have e1 := fun (w' : World) hb => erow w' hb k _ hr
        have hm := List.mem_of_getElem? hr
        have hrd := hRr _ hm
        have hxl := hrn _ hm
        dsimp only at hrd hxl
        obtain ⟨_, ra, rfl, _⟩ := hrd.ptr (by omega)
        repeat'
         conv => whnf
         first
          | refine zA ?_ | refine zB ?_ | refine zC ?_ | refine zD ?_ | refine zE ?_ | refine zF ?_ | refine zG ?_ | refine zH ?_ | refine zJ ?_ | refine zI ?_ | refine splT ?_ | refine splF ?_ | refine splNot ?_
          | ((first | refine splIn (fun hc => ?_) (fun hc => ?_) | refine splD (fun hc => ?_) (fun hc => ?_) | refine splE (fun hc => ?_) (fun hc => ?_) | refine splNE (fun hc => ?_) (fun hc => ?_)) <;> first | (exfalso; omega) | (exfalso; dsimp only at hc; omega) | skip)
        all_goals first | (exfalso; omega) | skip
        refine loopE (fun d : Nat => [(1, .v (.slice (some fa) F.length fc)), (2, .v (iv bound)), (3, .v (.slice (some ba) R.length bc)), (4, .ptr 0 0), (11, .v (iv k)), (12, .v (iv d))]) (fun _ => [(0, .cells [.v (iv nd), .v (iv shift), .v (iv size), .v (.slice to T.length tc), .v (.slice lo L.length lc)] 25)]) (fun d => d ≤ nd + 1 ∧ ∀ d' < d, AO k d' ≤ tbO (R.map Iw.xs) k d') (fun d => nd + 1 - d) 0 ⟨Nat.zero_le _, fun a ha => by omega⟩ ⟨rfl, rfl, rfl, rfl, rfl, rfl, trivial⟩ ⟨rfl, trivial⟩ (fun _ => ⟨rfl, rfl⟩) ?_
        intro d ⟨hd, hged⟩
        rcases Nat.lt_or_ge d (nd + 1) with hdl | hdl
        · obtain ⟨z, hz⟩ : ∃ z, xs[d]? = some z := ⟨_, List.getElem?_eq_getElem (by omega)⟩
          have ez := fun (w' : World) hw' => rd_ati (hrd.below (w' := w') hw') hz
          have htz : tbO (R.map Iw.xs) k d = z := by simp only [tbO, List.getElem?_map, hr, Option.map_some, Option.getD_some, hz]
          have h68c := h68 k d (by omega) (by omega)
          have hab := hrb2 k d
          by_cases hlt : z < AO k d
          · have hVf : false = V := by
              cases V with
              | false => rfl
              | true =>
                have := (hiff.1 rfl).2.2.1 k (by omega) d hdl
                omega
            generalize AO k d = A at *
            repeat'
             conv => whnf
             first
              | refine zA ?_ | refine zB ?_ | refine zC ?_ | refine zD ?_ | refine zE ?_ | refine zF ?_ | refine zG ?_ | refine zH ?_ | refine zJ ?_ | refine zI ?_ | refine splT ?_ | refine splF ?_ | refine splNot ?_
              | ((first | refine splIn (fun hc => ?_) (fun hc => ?_) | refine splD (fun hc => ?_) (fun hc => ?_) | refine splE (fun hc => ?_) (fun hc => ?_) | refine splNE (fun hc => ?_) (fun hc => ?_)) <;> first | (exfalso; omega) | (exfalso; dsimp only at hc; omega) | skip)
              | refine Exists.intro (α := List Value) [.slice (some ra) xs.length rc] ⟨⟨rfl, fun w' hw' => e1 w' hw'⟩, ?_⟩
              | refine Exists.intro (α := List Value) [iv z] ⟨⟨rfl, fun w' hw' => ez w' hw'⟩, ?_⟩
              | ((with_reducible show CallEv _ _ 68 _ _ _ _ _); refine callE (k := 68) (fun β w' hbw => h68c w' hbw) ?_)
            all_goals first | (exfalso; omega) | exact ⟨fun β => congrArg Value.bool hVf, fun w' h => h⟩
          · have hnx : ∀ d' < d + 1, AO k d' ≤ tbO (R.map Iw.xs) k d' := fun d' hd' => by
              rcases (by omega : d' < d ∨ d' = d) with hd' | rfl
              · exact hged d' hd'
              · omega
            generalize hA : AO k d = A at *
            repeat'
             conv => whnf
             first
              | refine zA ?_ | refine zB ?_ | refine zC ?_ | refine zD ?_ | refine zE ?_ | refine zF ?_ | refine zG ?_ | refine zH ?_ | refine zJ ?_ | refine zI ?_ | refine splT ?_ | refine splF ?_ | refine splNot ?_
              | ((first | refine splIn (fun hc => ?_) (fun hc => ?_) | refine splD (fun hc => ?_) (fun hc => ?_) | refine splE (fun hc => ?_) (fun hc => ?_) | refine splNE (fun hc => ?_) (fun hc => ?_)) <;> first | (exfalso; omega) | (exfalso; dsimp only at hc; omega) | skip)
              | refine Exists.intro (α := List Value) [.slice (some ra) xs.length rc] ⟨⟨rfl, fun w' hw' => e1 w' hw'⟩, ?_⟩
              | refine Exists.intro (α := List Value) [iv z] ⟨⟨rfl, fun w' hw' => ez w' hw'⟩, ?_⟩
              | ((with_reducible show CallEv _ _ 68 _ _ _ _ _); refine callE (k := 68) (fun β w' hbw => h68c w' hbw) ?_)
            all_goals first | (exfalso; omega) | exact ⟨d + 1, ⟨by omega, hnx⟩, by omega, Ent.weak rfl ⟨rfl, rfl, rfl, rfl, rfl, rfl, trivial⟩ ⟨rfl, trivial⟩ fun _ h => h⟩
        · have hnx : ∀ a < k + 1, ∀ d < nd + 1, AO a d ≤ tbO (R.map Iw.xs) a d := fun a ha d' hd' => by
            rcases (by omega : a < k ∨ a = k) with ha | rfl
            · exact hge a ha d' hd'
            · exact hged d' (by omega)
          repeat'
           conv => whnf
           first
            | refine zA ?_ | refine zB ?_ | refine zC ?_ | refine zD ?_ | refine zE ?_ | refine zF ?_ | refine zG ?_ | refine zH ?_ | refine zJ ?_ | refine zI ?_ | refine splT ?_ | refine splF ?_ | refine splNot ?_
            | ((first | refine splIn (fun hc => ?_) (fun hc => ?_) | refine splD (fun hc => ?_) (fun hc => ?_) | refine splE (fun hc => ?_) (fun hc => ?_) | refine splNE (fun hc => ?_) (fun hc => ?_)) <;> first | (exfalso; omega) | (exfalso; dsimp only at hc; omega) | skip)
          all_goals first | (exfalso; omega) | exact ⟨k + 1, ⟨by omega, hnx⟩, by omega, Ent.weak rfl ⟨rfl, rfl, rfl, rfl, rfl, trivial⟩ ⟨rfl, trivial⟩ fun _ h => h⟩
      · obtain rfl : k = R.length := by omega
        obtain ⟨r, hr⟩ : ∃ r, R[0]? = some r := ⟨_, List.getElem?_eq_getElem (by omega)⟩
        have hxl := hrn _ (List.mem_of_getElem? hr)
        obtain ⟨z, hz⟩ : ∃ z, r.xs[0]? = some z := ⟨_, List.getElem?_eq_getElem (by omega)⟩
        have hzb := hrb r.xs (List.mem_map.2 ⟨_, List.mem_of_getElem? hr, rfl⟩) z (List.mem_of_getElem? hz)
        have h32 := h32' r z hr hz (by omega)
        have hbd : bdO F (R.map Iw.xs) = smO F z := by unfold bdO tbO; rw [List.getElem?_map, hr, Option.map_some, Option.getD_some, hz]; rfl
        have hVd : decide (smO F z = bound) = V := by
          rw [Bool.eq_iff_iff, hiff, decide_eq_true_eq, ← hbd]
          refine ⟨fun hb => ⟨hRn2, fun q hq => ?_, fun a ha d hd => hge a (by omega) d hd, hb⟩, fun hh => hh.2.2.2⟩
          obtain ⟨r', hr', rfl⟩ := List.mem_map.1 hq
          exact ⟨hrn r' hr', fun n hn => hrb r'.xs hq n hn⟩
        rw [← hVd]
        clear hVd hbd
        repeat'
         conv => whnf
         first
          | refine zA ?_ | refine zB ?_ | refine zC ?_ | refine zD ?_ | refine zE ?_ | refine zF ?_ | refine zG ?_ | refine zH ?_ | refine zJ ?_ | refine zI ?_ | refine splT ?_ | refine splF ?_ | refine splNot ?_
          | ((first | refine splIn (fun hc => ?_) (fun hc => ?_) | refine splD (fun hc => ?_) (fun hc => ?_) | refine splE (fun hc => ?_) (fun hc => ?_) | refine splNE (fun hc => ?_) (fun hc => ?_)) <;> first | (exfalso; omega) | (exfalso; dsimp only at hc; omega) | skip)
          | ((with_reducible show CallEv _ _ 32 _ _ _ _ _); refine callE (k := 32) (fun β w' hbw => h32 w' hbw) ?_)
        all_goals first | (exfalso; omega) | exact ⟨fun β => rfl, fun w' h => h⟩
  · have hVf : false = V := by
      cases V with
      | false => rfl
      | true => exact absurd (hiff.1 rfl).1 hRn2
    have htl := h.tl
    clear h hn hto hfe hiff
    obtain ⟨days, shift, size, to, tc, T, lo, lc, L⟩ := x
    dsimp only at hRn2 htl
    refine calls_val env mixed Try.func45 has45 Try.ntmps45 [.agg #[iv days, iv shift, iv size, .slice to T.length tc, .slice lo L.length lc], .slice fo F.length fc, iv bound, .slice bo R.length bc] (by simp) ?_
    repeat'
     conv => whnf
     first
      | refine zA ?_ | refine zB ?_ | refine zC ?_ | refine zD ?_ | refine zE ?_ | refine zF ?_ | refine zG ?_ | refine zH ?_ | refine zJ ?_ | refine zI ?_ | refine splT ?_ | refine splF ?_ | refine splNot ?_
      | ((first | refine splIn (fun hc => ?_) (fun hc => ?_) | refine splD (fun hc => ?_) (fun hc => ?_) | refine splE (fun hc => ?_) (fun hc => ?_) | refine splNE (fun hc => ?_) (fun hc => ?_)) <;> first | (exfalso; omega) | (exfalso; dsimp only at hc; omega) | skip)
    all_goals first | (exfalso; omega) | exact ⟨fun β => congrArg Value.bool hVf, fun w' h => h⟩
end Go.Proofs.Ythfabodamhdhaaa
