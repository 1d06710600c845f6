/- Part 5 of the proof: texts merged. -/
import Derived.Test.YthfabodamhdhaaaQDd
namespace Go.Proofs.Ythfabodamhdhaaa
open Go Tx Go.RowKit
set_option linter.unusedSimpArgs false
set_option linter.unusedVariables false
theorem rows_st {α : Type} {sz : Nat} {f : α → List Value} (hf : ∀ x, (f x).length = sz) {bs : List α} {w : World} {m b n ty c : Nat} {xs : List Value} (hn : n = bs.length) (hx : xs = bs.flatMap f) (hb : m ≤ b) (h : w.ownsRow 0 ty sz (.slice (some ⟨b, 0, none⟩) n c) n xs) :
 St m (Rd sz f (.slice (some ⟨b, 0, none⟩) n c) bs) w := fun w2 k => by
 obtain ⟨cur, hc⟩ := own_heap h
 exact Rd.of_owns (sz := sz) (f := f) hf hx hn (own_keep h (k.same b hb (Array.getElem?_eq_some_iff.1 hc).1))
theorem own_cap {w : World} {b n c sz ty : Nat} {xs : List Value} (h : w.ownsRow 0 ty sz (.slice (some ⟨b, 0, none⟩) n c) n xs) : n ≤ c := by
 rcases h.2 with ⟨h', _⟩ | ⟨g, cap, cur, q0, q1, q2, q3, _⟩
 · cases h'
 · simp only [Value.slice.injEq] at q0
   obtain ⟨_, _, rfl⟩ := q0
   exact q3
set_option maxHeartbeats 8000000 in
set_option maxRecDepth 100000 in
theorem Tour_ok (x : Tr) (w : World) (h : TrIn x w) (hB : TrB x) : Calls Try.prog 21 #[x.v] w fun e w' => ∃ y : Tr, e = .returned y.v ∧ Below w.heap.size w w' ∧ St w.heap.size (fun w2 => TrIn y w2 ∧ y.d = x.d) w' := by
 obtain ⟨days, shift, size, to, tc, T, lo, lc, L⟩ := x
 obtain ⟨hT, hTi, hL, hLi, -, -, -, htc⟩ := h
 obtain ⟨hBt, hBl, htl, hll⟩ := hB
 dsimp only at hT hTi hL hLi htc hBt hBl htl hll ⊢
 refine calls_famV env mixed Try.func21 has21 Try.ntmps21 [.agg #[iv days, iv shift, iv size, .slice to T.length tc, .slice lo L.length lc]] (by simp) ?_
 refine VC.cutD env mixed 3 3 (fun _ : (Option Addr × Nat) × List Tn => [(1, .ptr 0 0), (2, .ptr 1 0), (3, .ptr 2 0)]) (fun y => [(0, .cells [.v (iv days), .v (iv shift), .v (iv size), .v (.slice to T.length tc), .v (.slice lo L.length lc)] 25), (1, .cells [.v (iv 0), .v (iv 0), .v (iv 0), .v (.slice none 0 0), .v (.slice none 0 0)] 35), (2, .cells [.v (iv days), .v (iv shift), .v (iv size), .v (.slice y.1.1 T.length y.1.2), .v (.slice none 0 0)] 35)]) (fun y w2 => Below w.heap.size w w2 ∧ (St w.heap.size (Rd 9 Tn.cs (.slice y.1.1 T.length y.1.2) y.2) w2 ∧ ∀ t ∈ y.2, St w.heap.size (TnIn t) w2)) (fun y => y.2.map Tn.d = T.map Tn.d ∧ T.length ≤ y.1.2) (fun _ _ => ⟨rfl, rfl⟩) ?_ ?_
 · skip
   repeat'
    conv => whnf
    first
     | refine zA ?_ | refine zB ?_ | refine zC ?_ | refine zD ?_ | refine zE ?_ | refine zF ?_ | refine zG ?_ | refine zH ?_ | refine zJ ?_ | refine zI ?_ | refine splT ?_ | refine splF ?_ | refine splNot ?_
     | ((first | refine splIn ?_ ?_ | refine splD ?_ ?_ | refine splE ?_ ?_ | refine splNE ?_ ?_) <;> intro hc <;> first | (exfalso; omega) | (exfalso; dsimp only at hc; omega) | skip)
   all_goals first | (exfalso; omega) | skip
   refine loopD 5 (fun D : List Tn => [(1, .ptr 0 0), (2, .ptr 1 0), (3, .ptr 2 0), (4, .v (iv D.length))]) (fun D => (0, .cells [.v (iv days), .v (iv shift), .v (iv size), .v (.slice to T.length tc), .v (.slice lo L.length lc)] 25) :: (1, .cells [.v (iv 0), .v (iv 0), .v (iv 0), .v (.slice none 0 0), .v (.slice none 0 0)] 35) :: (2, .cells [.v (iv days), .v (iv shift), .v (iv size), oSV 3 4 D, .v (.slice none 0 0)] 35) :: oM 3 4 9 Tn.cs 57 D) (fun (D : List Tn) w' => Below w.heap.size w w' ∧ ∀ t ∈ D, St w.heap.size (TnIn t) w') (fun D => D.length ≤ T.length ∧ D.map Tn.d = (T.map Tn.d).take D.length) (fun D => T.length - D.length)
    (Dis.ent (x := []) ⟨Nat.zero_le _, rfl⟩ (Ent.weak rfl ⟨rfl, rfl, rfl, rfl, trivial⟩ ⟨rfl, rfl, rfl, trivial⟩ (fun w' h => ⟨h, fun p hp => by cases hp⟩))) (fun D _ => by cases D <;> exact ⟨rfl, rfl⟩) ?_
   intro D ⟨hk, hmap⟩
   rcases Nat.lt_or_ge D.length T.length with hkl | hkl
   · obtain ⟨⟨oo, oc, ro, rc, O, s1, s2, pay, lot, rent, R, cold, cut⟩, hx⟩ : ∃ b, T[D.length]? = some b := ⟨_, List.getElem?_eq_getElem hkl⟩
     obtain ⟨_, ad, rfl, _⟩ := hT.ptr (by omega)
     have e0 := fun (w' : World) hw' => rd_ati (hT.below (w' := w') hw') hx
     have hti := hTi _ (List.mem_of_getElem? hx)
     have hbt := hBt _ (List.mem_of_getElem? hx)
     obtain ⟨htO, htR, -, -⟩ := hti
     dsimp only at htO htR hbt
     have hO60 := fun w' (hb : Below w.heap.size w w') => ranges_ok O oo oc w' (htO.below hb) (by omega)
     have hR60 := fun w' (hb : Below w.heap.size w w') => ranges_ok R ro rc w' (htR.below hb) (by omega)
     have hm : (T.map Tn.d)[D.length]? = some ⟨O, s1, s2, pay, lot, rent, R, cold, cut⟩ := by rw [List.getElem?_map, hx]; rfl
     have hnew : ∀ t : Tn, t.d = ⟨O, s1, s2, pay, lot, rent, R, cold, cut⟩ → (D ++ [t]).map Tn.d = (T.map Tn.d).take (D ++ [t]).length := fun t ht => by
      rw [List.map_append, hmap, List.length_append, List.length_singleton, List.take_add_one, hm]
      show _ ++ [t.d] = _
      rw [ht]; rfl
     have hl2 : ∀ t : Tn, (D ++ [t]).length = D.length + 1 := fun t => by simp
     have hh : ∀ (t : Tn) w', (fun (D : List Tn) w' => Below w.heap.size w w' ∧ ∀ t ∈ D, St w.heap.size (TnIn t) w') D w' → t.d = ⟨O, s1, s2, pay, lot, rent, R, cold, cut⟩ → St w.heap.size (TnIn t) w' → (fun (D : List Tn) w' => Below w.heap.size w w' ∧ ∀ t ∈ D, St w.heap.size (TnIn t) w') (D ++ [t]) w' := fun t w' hw' _ ht => ⟨hw'.1, fun r hr => by
      rcases List.mem_append.1 hr with hr | hr
      · exact hw'.2 r hr
      · rw [List.mem_singleton] at hr; subst hr; exact ht⟩
     generalize hn : D.length = n at *
     by_cases hOn : O = []
     · subst hOn
       have hO1 := fun w' hb => (hO60 w' hb).mono fun e w2 h => h.1 rfl
       by_cases hRn : R = []
       · subst hRn
         have hR1 := fun w' hb => (hR60 w' hb).mono fun e w2 h => h.1 rfl
         clear hO60 hR60
         cases D with
         | nil =>
          repeat'
           conv => whnf
           first
            | refine zA ?_ | refine zB ?_ | refine zC ?_ | refine zD ?_ | refine zE ?_ | refine zF ?_ | refine zG ?_ | refine zH ?_ | refine zJ ?_ | refine zI ?_ | refine splT ?_ | refine splF ?_ | refine splNot ?_
            | ((first | refine splIn ?_ ?_ | refine splD ?_ ?_ | refine splE ?_ ?_ | refine splNE ?_ ?_) <;> intro hc <;> first | (exfalso; omega) | (exfalso; dsimp only at hc; omega) | skip)
            | refine Exists.intro (α := List Value) [.slice oo ([] : List (Int × Int)).length oc, iv s1, iv s2, iv pay, iv lot, iv rent, .slice ro ([] : List (Int × Int)).length rc, iv cold, iv cut] ⟨⟨rfl, fun w' hw' => e0 w' hw'.1⟩, ?_⟩
            | ((with_reducible show CallEv _ _ 60 [.v (.slice oo ([] : List (Int × Int)).length oc)] _ _ _ _); refine callE (k := 60) (fun β w' hbw => hO1 w' hbw.1) ?_)
            | ((with_reducible show CallEv _ _ 60 [.v (.slice ro ([] : List (Int × Int)).length rc)] _ _ _ _); refine callE (k := 60) (fun β w' hbw => hR1 w' hbw.1) ?_)
          all_goals first | (exfalso; omega) | skip
          exact Dis.mk5 (w0 := w) (rho [(3, 7), (4, 8)]) [] (by exact trivial) (fun i hi => by cases hi) (fun w' h => h.1) (fun β w1 hok hw1 hge hne hij => ⟨[] ++ [(⟨none, 0, none, 0, ⟨[], s1, s2, pay, lot, rent, [], cold, cut⟩⟩ : Tn)], ⟨⟨by (show 1 ≤ T.length); omega, hnew (⟨none, 0, none, 0, ⟨[], s1, s2, pay, lot, rent, [], cold, cut⟩⟩ : Tn) rfl⟩, by (have hn0 : n = 0 := hn.symm); (show T.length - 1 < T.length - n); omega⟩, ⟨⟨_, rfl, rfl⟩, ⟨_, rfl, rfl⟩, ⟨_, rfl, rfl⟩, ⟨_, rfl, by rw [← hn]; rfl⟩, trivial⟩,
           ⟨⟨rfl, _, rfl, fun _ => rfl, fun w2 y hy => hy⟩, ⟨rfl, _, rfl, fun _ => rfl, fun w2 y hy => hy⟩, ⟨rfl, _, rfl, fun _ => rfl, fun w2 y hy => hy⟩, ⟨rfl, _, rfl, fun _ => rfl, fun w2 y hy => hy⟩, trivial⟩, rfl, fun w2 hw2 hLo => hh (⟨none, 0, none, 0, ⟨[], s1, s2, pay, lot, rent, [], cold, cut⟩⟩ : Tn) w2 hw2 rfl (fun w3 k3 => ⟨.inl ⟨rfl, rfl⟩, .inl ⟨rfl, rfl⟩, by (show ([] : List (Int × Int)).length ≤ 1000000); omega, by (show ([] : List (Int × Int)).length ≤ 1000000); omega⟩)⟩)
         | cons a D =>
          simp only [List.length_cons] at hn
          have hl3 : ∀ t : Tn, (a :: D ++ [t]).length = D.length + 1 + 1 := fun t => by rw [hl2]; omega
          have hoS : ∀ t : Tn, oSV 3 4 (a :: D ++ [t]) = .os 3 4 (D.length + 1 + 1) := fun t => by simp [oSV]
          repeat'
           conv => whnf
           first
            | refine zA ?_ | refine zB ?_ | refine zC ?_ | refine zD ?_ | refine zE ?_ | refine zF ?_ | refine zG ?_ | refine zH ?_ | refine zJ ?_ | refine zI ?_ | refine splT ?_ | refine splF ?_ | refine splNot ?_
            | ((first | refine splIn ?_ ?_ | refine splD ?_ ?_ | refine splE ?_ ?_ | refine splNE ?_ ?_) <;> intro hc <;> first | (exfalso; omega) | (exfalso; dsimp only at hc; omega) | skip)
            | refine Exists.intro (α := List Value) [.slice oo ([] : List (Int × Int)).length oc, iv s1, iv s2, iv pay, iv lot, iv rent, .slice ro ([] : List (Int × Int)).length rc, iv cold, iv cut] ⟨⟨rfl, fun w' hw' => e0 w' hw'.1⟩, ?_⟩
            | ((with_reducible show CallEv _ _ 60 [.v (.slice oo ([] : List (Int × Int)).length oc)] _ _ _ _); refine callE (k := 60) (fun β w' hbw => hO1 w' hbw.1) ?_)
            | ((with_reducible show CallEv _ _ 60 [.v (.slice ro ([] : List (Int × Int)).length rc)] _ _ _ _); refine callE (k := 60) (fun β w' hbw => hR1 w' hbw.1) ?_)
          all_goals first | (exfalso; omega) | skip
          exact Dis.mk5 (w0 := w) (rho [(3, 7), (4, 8)]) [] (by exact trivial) (fun i hi => by cases hi) (fun w' h => h.1) (fun β w1 hok hw1 hge hne hij => ⟨a :: D ++ [(⟨none, 0, none, 0, ⟨[], s1, s2, pay, lot, rent, [], cold, cut⟩⟩ : Tn)], ⟨⟨by have := hl3 (⟨none, 0, none, 0, ⟨[], s1, s2, pay, lot, rent, [], cold, cut⟩⟩ : Tn); omega, hnew (⟨none, 0, none, 0, ⟨[], s1, s2, pay, lot, rent, [], cold, cut⟩⟩ : Tn) rfl⟩, by have := hl3 (⟨none, 0, none, 0, ⟨[], s1, s2, pay, lot, rent, [], cold, cut⟩⟩ : Tn); omega⟩, ⟨⟨_, rfl, rfl⟩, ⟨_, rfl, rfl⟩, ⟨_, rfl, rfl⟩, ⟨_, rfl, by rw [hl3 (⟨none, 0, none, 0, ⟨[], s1, s2, pay, lot, rent, [], cold, cut⟩⟩ : Tn), ← hn]; rfl⟩, trivial⟩,
           ⟨⟨rfl, _, rfl, fun _ => rfl, fun w2 y hy => hy⟩, ⟨rfl, _, rfl, fun _ => rfl, fun w2 y hy => hy⟩, ⟨rfl, _, rfl, fun _ => rfl, fun w2 y hy => by rw [hoS (⟨none, 0, none, 0, ⟨[], s1, s2, pay, lot, rent, [], cold, cut⟩⟩ : Tn)]; exact hy⟩, by simp [oM]; exact ⟨⟨rfl, _, rfl, fun _ => rfl, fun w2 y hy => by simp [Blk.ok] at hy ⊢; exact hy⟩, trivial⟩⟩, rfl, fun w2 hw2 hLo => hh (⟨none, 0, none, 0, ⟨[], s1, s2, pay, lot, rent, [], cold, cut⟩⟩ : Tn) w2 hw2 rfl (fun w3 k3 => ⟨.inl ⟨rfl, rfl⟩, .inl ⟨rfl, rfl⟩, by (show ([] : List (Int × Int)).length ≤ 1000000); omega, by (show ([] : List (Int × Int)).length ≤ 1000000); omega⟩)⟩)
       · have hR2 := fun w' hb => (hR60 w' hb).mono fun e w2 h => h.2 hRn
         clear hO60 hR60
         cases D with
         | nil =>
          repeat'
           conv => whnf
           first
            | refine zA ?_ | refine zB ?_ | refine zC ?_ | refine zD ?_ | refine zE ?_ | refine zF ?_ | refine zG ?_ | refine zH ?_ | refine zJ ?_ | refine zI ?_ | refine splT ?_ | refine splF ?_ | refine splNot ?_
            | ((first | refine splIn ?_ ?_ | refine splD ?_ ?_ | refine splE ?_ ?_ | refine splNE ?_ ?_) <;> intro hc <;> first | (exfalso; omega) | (exfalso; dsimp only at hc; omega) | skip)
            | refine Exists.intro (α := List Value) [.slice oo ([] : List (Int × Int)).length oc, iv s1, iv s2, iv pay, iv lot, iv rent, .slice ro R.length rc, iv cold, iv cut] ⟨⟨rfl, fun w' hw' => e0 w' hw'.1⟩, ?_⟩
            | ((with_reducible show CallEv _ _ 60 [.v (.slice oo ([] : List (Int × Int)).length oc)] _ _ _ _); refine callE (k := 60) (fun β w' hbw => hO1 w' hbw.1) ?_)
            | ((with_reducible show CallEv _ _ 60 [.v (.slice ro R.length rc)] _ _ _ _); refine callO 6 [] (.os 6 7 R.length) R.length 2 (R.flatMap prF) 55 rfl (fun β w' _ hbw => (hR2 w' hbw.1).mono fun _ _ ⟨b, c, h1, h2, h3, h4⟩ => ⟨b, c, h1, h2, h3, h4⟩) ?_)
            | refine appG env 8 1 1 [.v (.slice none 0 0), .v (iv s1), .v (iv s2), .v (iv pay), .v (iv lot), .v (iv rent), .os 6 7 R.length, .v (iv cold), .v (iv cut)] 57 0 [] [] rfl rfl rfl rfl rfl (by decide) rfl rfl rfl (fun _ => Nat.le_refl _) (by omega) (by decide) rfl (.inl ⟨rfl, rfl, rfl, rfl⟩) rfl ?_
          all_goals first | (exfalso; omega) | skip
          exact Dis.mk5 (w0 := w) (rho [(3, 9), (4, 10)]) [6] (by exact trivial) (fun i hi => by rw [List.mem_singleton] at hi; subst hi; exact ⟨_, rfl, rfl⟩) (fun w' h => h.1) (fun β w1 hok hw1 hge hne hij => ⟨[] ++ [(⟨none, 0, some ⟨β 6, 0, none⟩, β 7, ⟨[], s1, s2, pay, lot, rent, R, cold, cut⟩⟩ : Tn)], ⟨⟨by (show 1 ≤ T.length); omega, hnew (⟨none, 0, some ⟨β 6, 0, none⟩, β 7, ⟨[], s1, s2, pay, lot, rent, R, cold, cut⟩⟩ : Tn) rfl⟩, by (have hn0 : n = 0 := hn.symm); (show T.length - 1 < T.length - n); omega⟩, ⟨⟨_, rfl, rfl⟩, ⟨_, rfl, rfl⟩, ⟨_, rfl, rfl⟩, ⟨_, rfl, by rw [← hn]; rfl⟩, trivial⟩,
           ⟨⟨rfl, _, rfl, fun _ => rfl, fun w2 y hy => hy⟩, ⟨rfl, _, rfl, fun _ => rfl, fun w2 y hy => hy⟩, ⟨rfl, _, rfl, fun _ => rfl, fun w2 y hy => hy⟩, ⟨rfl, _, rfl, fun _ => rfl, fun w2 y hy => hy⟩, trivial⟩, rfl, fun w2 hw2 hLo => hh (⟨none, 0, some ⟨β 6, 0, none⟩, β 7, ⟨[], s1, s2, pay, lot, rent, R, cold, cut⟩⟩ : Tn) w2 hw2 rfl (fun w3 k3 => ⟨.inl ⟨rfl, rfl⟩, rows_st (f := prF) (fun _ => rfl) rfl rfl (hge 6 _ rfl rfl) (hLo 6 (by simp) _ rfl) w3 k3, by (show ([] : List (Int × Int)).length ≤ 1000000); omega, by (show R.length ≤ 1000000); omega⟩)⟩)
         | cons a D =>
          simp only [List.length_cons] at hn
          have hl3 : ∀ t : Tn, (a :: D ++ [t]).length = D.length + 1 + 1 := fun t => by rw [hl2]; omega
          have hoS : ∀ t : Tn, oSV 3 4 (a :: D ++ [t]) = .os 3 4 (D.length + 1 + 1) := fun t => by simp [oSV]
          repeat'
           conv => whnf
           first
            | refine zA ?_ | refine zB ?_ | refine zC ?_ | refine zD ?_ | refine zE ?_ | refine zF ?_ | refine zG ?_ | refine zH ?_ | refine zJ ?_ | refine zI ?_ | refine splT ?_ | refine splF ?_ | refine splNot ?_
            | ((first | refine splIn ?_ ?_ | refine splD ?_ ?_ | refine splE ?_ ?_ | refine splNE ?_ ?_) <;> intro hc <;> first | (exfalso; omega) | (exfalso; dsimp only at hc; omega) | skip)
            | refine Exists.intro (α := List Value) [.slice oo ([] : List (Int × Int)).length oc, iv s1, iv s2, iv pay, iv lot, iv rent, .slice ro R.length rc, iv cold, iv cut] ⟨⟨rfl, fun w' hw' => e0 w' hw'.1⟩, ?_⟩
            | ((with_reducible show CallEv _ _ 60 [.v (.slice oo ([] : List (Int × Int)).length oc)] _ _ _ _); refine callE (k := 60) (fun β w' hbw => hO1 w' hbw.1) ?_)
            | ((with_reducible show CallEv _ _ 60 [.v (.slice ro R.length rc)] _ _ _ _); refine callO 6 [] (.os 6 7 R.length) R.length 2 (R.flatMap prF) 55 rfl (fun β w' _ hbw => (hR2 w' hbw.1).mono fun _ _ ⟨b, c, h1, h2, h3, h4⟩ => ⟨b, c, h1, h2, h3, h4⟩) ?_)
            | refine appG env 8 1 1 [.v (.slice none 0 0), .v (iv s1), .v (iv s2), .v (iv pay), .v (iv lot), .v (iv rent), .os 6 7 R.length, .v (iv cold), .v (iv cut)] 57 (D.length + 1) ((a :: D).flatMap Tn.cs) [3] rfl rfl rfl rfl rfl (by decide) rfl rfl rfl (fun h => by cases h) (by omega) (by show (D.length + 1 + 1) * 104 ≤ 140737488355328; omega) rfl (.inr ⟨3, 4, rfl, rfl, rfl, (by show 3 < 9; decide)⟩) rfl ?_
          all_goals first | (exfalso; omega) | skip
          exact Dis.mk5 (w0 := w) (rho [(3, 9), (4, 10)]) [6] (by exact trivial) (fun i hi => by rw [List.mem_singleton] at hi; subst hi; exact ⟨_, rfl, rfl⟩) (fun w' h => h.1) (fun β w1 hok hw1 hge hne hij => ⟨a :: D ++ [(⟨none, 0, some ⟨β 6, 0, none⟩, β 7, ⟨[], s1, s2, pay, lot, rent, R, cold, cut⟩⟩ : Tn)], ⟨⟨by have := hl3 (⟨none, 0, some ⟨β 6, 0, none⟩, β 7, ⟨[], s1, s2, pay, lot, rent, R, cold, cut⟩⟩ : Tn); omega, hnew (⟨none, 0, some ⟨β 6, 0, none⟩, β 7, ⟨[], s1, s2, pay, lot, rent, R, cold, cut⟩⟩ : Tn) rfl⟩, by have := hl3 (⟨none, 0, some ⟨β 6, 0, none⟩, β 7, ⟨[], s1, s2, pay, lot, rent, R, cold, cut⟩⟩ : Tn); omega⟩, ⟨⟨_, rfl, rfl⟩, ⟨_, rfl, rfl⟩, ⟨_, rfl, rfl⟩, ⟨_, rfl, by rw [hl3 (⟨none, 0, some ⟨β 6, 0, none⟩, β 7, ⟨[], s1, s2, pay, lot, rent, R, cold, cut⟩⟩ : Tn), ← hn]; rfl⟩, trivial⟩,
           ⟨⟨rfl, _, rfl, fun _ => rfl, fun w2 y hy => hy⟩, ⟨rfl, _, rfl, fun _ => rfl, fun w2 y hy => hy⟩, ⟨rfl, _, rfl, fun _ => rfl, fun w2 y hy => by rw [hoS (⟨none, 0, some ⟨β 6, 0, none⟩, β 7, ⟨[], s1, s2, pay, lot, rent, R, cold, cut⟩⟩ : Tn)]; exact hy⟩, by simp [oM]; exact ⟨⟨rfl, _, rfl, fun _ => rfl, fun w2 y hy => by simp [Blk.ok] at hy ⊢; exact hy⟩, trivial⟩⟩, rfl, fun w2 hw2 hLo => hh (⟨none, 0, some ⟨β 6, 0, none⟩, β 7, ⟨[], s1, s2, pay, lot, rent, R, cold, cut⟩⟩ : Tn) w2 hw2 rfl (fun w3 k3 => ⟨.inl ⟨rfl, rfl⟩, rows_st (f := prF) (fun _ => rfl) rfl rfl (hge 6 _ rfl rfl) (hLo 6 (by simp) _ rfl) w3 k3, by (show ([] : List (Int × Int)).length ≤ 1000000); omega, by (show R.length ≤ 1000000); omega⟩)⟩)
     · have hO2 := fun w' hb => (hO60 w' hb).mono fun e w2 h => h.2 hOn
       by_cases hRn : R = []
       · subst hRn
         have hR1 := fun w' hb => (hR60 w' hb).mono fun e w2 h => h.1 rfl
         clear hO60 hR60
         cases D with
         | nil =>
          repeat'
           conv => whnf
           first
            | refine zA ?_ | refine zB ?_ | refine zC ?_ | refine zD ?_ | refine zE ?_ | refine zF ?_ | refine zG ?_ | refine zH ?_ | refine zJ ?_ | refine zI ?_ | refine splT ?_ | refine splF ?_ | refine splNot ?_
            | ((first | refine splIn ?_ ?_ | refine splD ?_ ?_ | refine splE ?_ ?_ | refine splNE ?_ ?_) <;> intro hc <;> first | (exfalso; omega) | (exfalso; dsimp only at hc; omega) | skip)
            | refine Exists.intro (α := List Value) [.slice oo O.length oc, iv s1, iv s2, iv pay, iv lot, iv rent, .slice ro ([] : List (Int × Int)).length rc, iv cold, iv cut] ⟨⟨rfl, fun w' hw' => e0 w' hw'.1⟩, ?_⟩
            | ((with_reducible show CallEv _ _ 60 [.v (.slice oo O.length oc)] _ _ _ _); refine callO 6 [] (.os 6 7 O.length) O.length 2 (O.flatMap prF) 55 rfl (fun β w' _ hbw => (hO2 w' hbw.1).mono fun _ _ ⟨b, c, h1, h2, h3, h4⟩ => ⟨b, c, h1, h2, h3, h4⟩) ?_)
            | ((with_reducible show CallEv _ _ 60 [.v (.slice ro ([] : List (Int × Int)).length rc)] _ _ _ _); refine callE (k := 60) (fun β w' hbw => hR1 w' hbw.1) ?_)
            | refine appG env 8 1 1 [.os 6 7 O.length, .v (iv s1), .v (iv s2), .v (iv pay), .v (iv lot), .v (iv rent), .v (.slice none 0 0), .v (iv cold), .v (iv cut)] 57 0 [] [] rfl rfl rfl rfl rfl (by decide) rfl rfl rfl (fun _ => Nat.le_refl _) (by omega) (by decide) rfl (.inl ⟨rfl, rfl, rfl, rfl⟩) rfl ?_
          all_goals first | (exfalso; omega) | skip
          exact Dis.mk5 (w0 := w) (rho [(3, 9), (4, 10)]) [6] (by exact trivial) (fun i hi => by rw [List.mem_singleton] at hi; subst hi; exact ⟨_, rfl, rfl⟩) (fun w' h => h.1) (fun β w1 hok hw1 hge hne hij => ⟨[] ++ [(⟨some ⟨β 6, 0, none⟩, β 7, none, 0, ⟨O, s1, s2, pay, lot, rent, [], cold, cut⟩⟩ : Tn)], ⟨⟨by (show 1 ≤ T.length); omega, hnew (⟨some ⟨β 6, 0, none⟩, β 7, none, 0, ⟨O, s1, s2, pay, lot, rent, [], cold, cut⟩⟩ : Tn) rfl⟩, by (have hn0 : n = 0 := hn.symm); (show T.length - 1 < T.length - n); omega⟩, ⟨⟨_, rfl, rfl⟩, ⟨_, rfl, rfl⟩, ⟨_, rfl, rfl⟩, ⟨_, rfl, by rw [← hn]; rfl⟩, trivial⟩,
           ⟨⟨rfl, _, rfl, fun _ => rfl, fun w2 y hy => hy⟩, ⟨rfl, _, rfl, fun _ => rfl, fun w2 y hy => hy⟩, ⟨rfl, _, rfl, fun _ => rfl, fun w2 y hy => hy⟩, ⟨rfl, _, rfl, fun _ => rfl, fun w2 y hy => hy⟩, trivial⟩, rfl, fun w2 hw2 hLo => hh (⟨some ⟨β 6, 0, none⟩, β 7, none, 0, ⟨O, s1, s2, pay, lot, rent, [], cold, cut⟩⟩ : Tn) w2 hw2 rfl (fun w3 k3 => ⟨rows_st (f := prF) (fun _ => rfl) rfl rfl (hge 6 _ rfl rfl) (hLo 6 (by simp) _ rfl) w3 k3, .inl ⟨rfl, rfl⟩, by (show O.length ≤ 1000000); omega, by (show ([] : List (Int × Int)).length ≤ 1000000); omega⟩)⟩)
         | cons a D =>
          simp only [List.length_cons] at hn
          have hl3 : ∀ t : Tn, (a :: D ++ [t]).length = D.length + 1 + 1 := fun t => by rw [hl2]; omega
          have hoS : ∀ t : Tn, oSV 3 4 (a :: D ++ [t]) = .os 3 4 (D.length + 1 + 1) := fun t => by simp [oSV]
          repeat'
           conv => whnf
           first
            | refine zA ?_ | refine zB ?_ | refine zC ?_ | refine zD ?_ | refine zE ?_ | refine zF ?_ | refine zG ?_ | refine zH ?_ | refine zJ ?_ | refine zI ?_ | refine splT ?_ | refine splF ?_ | refine splNot ?_
            | ((first | refine splIn ?_ ?_ | refine splD ?_ ?_ | refine splE ?_ ?_ | refine splNE ?_ ?_) <;> intro hc <;> first | (exfalso; omega) | (exfalso; dsimp only at hc; omega) | skip)
            | refine Exists.intro (α := List Value) [.slice oo O.length oc, iv s1, iv s2, iv pay, iv lot, iv rent, .slice ro ([] : List (Int × Int)).length rc, iv cold, iv cut] ⟨⟨rfl, fun w' hw' => e0 w' hw'.1⟩, ?_⟩
            | ((with_reducible show CallEv _ _ 60 [.v (.slice oo O.length oc)] _ _ _ _); refine callO 6 [] (.os 6 7 O.length) O.length 2 (O.flatMap prF) 55 rfl (fun β w' _ hbw => (hO2 w' hbw.1).mono fun _ _ ⟨b, c, h1, h2, h3, h4⟩ => ⟨b, c, h1, h2, h3, h4⟩) ?_)
            | ((with_reducible show CallEv _ _ 60 [.v (.slice ro ([] : List (Int × Int)).length rc)] _ _ _ _); refine callE (k := 60) (fun β w' hbw => hR1 w' hbw.1) ?_)
            | refine appG env 8 1 1 [.os 6 7 O.length, .v (iv s1), .v (iv s2), .v (iv pay), .v (iv lot), .v (iv rent), .v (.slice none 0 0), .v (iv cold), .v (iv cut)] 57 (D.length + 1) ((a :: D).flatMap Tn.cs) [3] rfl rfl rfl rfl rfl (by decide) rfl rfl rfl (fun h => by cases h) (by omega) (by show (D.length + 1 + 1) * 104 ≤ 140737488355328; omega) rfl (.inr ⟨3, 4, rfl, rfl, rfl, (by show 3 < 9; decide)⟩) rfl ?_
          all_goals first | (exfalso; omega) | skip
          exact Dis.mk5 (w0 := w) (rho [(3, 9), (4, 10)]) [6] (by exact trivial) (fun i hi => by rw [List.mem_singleton] at hi; subst hi; exact ⟨_, rfl, rfl⟩) (fun w' h => h.1) (fun β w1 hok hw1 hge hne hij => ⟨a :: D ++ [(⟨some ⟨β 6, 0, none⟩, β 7, none, 0, ⟨O, s1, s2, pay, lot, rent, [], cold, cut⟩⟩ : Tn)], ⟨⟨by have := hl3 (⟨some ⟨β 6, 0, none⟩, β 7, none, 0, ⟨O, s1, s2, pay, lot, rent, [], cold, cut⟩⟩ : Tn); omega, hnew (⟨some ⟨β 6, 0, none⟩, β 7, none, 0, ⟨O, s1, s2, pay, lot, rent, [], cold, cut⟩⟩ : Tn) rfl⟩, by have := hl3 (⟨some ⟨β 6, 0, none⟩, β 7, none, 0, ⟨O, s1, s2, pay, lot, rent, [], cold, cut⟩⟩ : Tn); omega⟩, ⟨⟨_, rfl, rfl⟩, ⟨_, rfl, rfl⟩, ⟨_, rfl, rfl⟩, ⟨_, rfl, by rw [hl3 (⟨some ⟨β 6, 0, none⟩, β 7, none, 0, ⟨O, s1, s2, pay, lot, rent, [], cold, cut⟩⟩ : Tn), ← hn]; rfl⟩, trivial⟩,
           ⟨⟨rfl, _, rfl, fun _ => rfl, fun w2 y hy => hy⟩, ⟨rfl, _, rfl, fun _ => rfl, fun w2 y hy => hy⟩, ⟨rfl, _, rfl, fun _ => rfl, fun w2 y hy => by rw [hoS (⟨some ⟨β 6, 0, none⟩, β 7, none, 0, ⟨O, s1, s2, pay, lot, rent, [], cold, cut⟩⟩ : Tn)]; exact hy⟩, by simp [oM]; exact ⟨⟨rfl, _, rfl, fun _ => rfl, fun w2 y hy => by simp [Blk.ok] at hy ⊢; exact hy⟩, trivial⟩⟩, rfl, fun w2 hw2 hLo => hh (⟨some ⟨β 6, 0, none⟩, β 7, none, 0, ⟨O, s1, s2, pay, lot, rent, [], cold, cut⟩⟩ : Tn) w2 hw2 rfl (fun w3 k3 => ⟨rows_st (f := prF) (fun _ => rfl) rfl rfl (hge 6 _ rfl rfl) (hLo 6 (by simp) _ rfl) w3 k3, .inl ⟨rfl, rfl⟩, by (show O.length ≤ 1000000); omega, by (show ([] : List (Int × Int)).length ≤ 1000000); omega⟩)⟩)
       · have hR2 := fun w' hb => (hR60 w' hb).mono fun e w2 h => h.2 hRn
         clear hO60 hR60
         cases D with
         | nil =>
          repeat'
           conv => whnf
           first
            | refine zA ?_ | refine zB ?_ | refine zC ?_ | refine zD ?_ | refine zE ?_ | refine zF ?_ | refine zG ?_ | refine zH ?_ | refine zJ ?_ | refine zI ?_ | refine splT ?_ | refine splF ?_ | refine splNot ?_
            | ((first | refine splIn ?_ ?_ | refine splD ?_ ?_ | refine splE ?_ ?_ | refine splNE ?_ ?_) <;> intro hc <;> first | (exfalso; omega) | (exfalso; dsimp only at hc; omega) | skip)
            | refine Exists.intro (α := List Value) [.slice oo O.length oc, iv s1, iv s2, iv pay, iv lot, iv rent, .slice ro R.length rc, iv cold, iv cut] ⟨⟨rfl, fun w' hw' => e0 w' hw'.1⟩, ?_⟩
            | ((with_reducible show CallEv _ _ 60 [.v (.slice oo O.length oc)] _ _ _ _); refine callO 6 [] (.os 6 7 O.length) O.length 2 (O.flatMap prF) 55 rfl (fun β w' _ hbw => (hO2 w' hbw.1).mono fun _ _ ⟨b, c, h1, h2, h3, h4⟩ => ⟨b, c, h1, h2, h3, h4⟩) ?_)
            | ((with_reducible show CallEv _ _ 60 [.v (.slice ro R.length rc)] _ _ _ _); refine callO 8 [] (.os 8 9 R.length) R.length 2 (R.flatMap prF) 55 rfl (fun β w' _ hbw => (hR2 w' hbw.1).mono fun _ _ ⟨b, c, h1, h2, h3, h4⟩ => ⟨b, c, h1, h2, h3, h4⟩) ?_)
            | refine appG env 10 1 1 [.os 6 7 O.length, .v (iv s1), .v (iv s2), .v (iv pay), .v (iv lot), .v (iv rent), .os 8 9 R.length, .v (iv cold), .v (iv cut)] 57 0 [] [] rfl rfl rfl rfl rfl (by decide) rfl rfl rfl (fun _ => Nat.le_refl _) (by omega) (by decide) rfl (.inl ⟨rfl, rfl, rfl, rfl⟩) rfl ?_
          all_goals first | (exfalso; omega) | skip
          exact Dis.mk5 (w0 := w) (rho [(3, 11), (4, 12)]) [6, 8] (by exact trivial) (fun i hi => by simp only [List.mem_cons, List.not_mem_nil, or_false] at hi; rcases hi with rfl | rfl <;> exact ⟨_, rfl, rfl⟩) (fun w' h => h.1) (fun β w1 hok hw1 hge hne hij => ⟨[] ++ [(⟨some ⟨β 6, 0, none⟩, β 7, some ⟨β 8, 0, none⟩, β 9, ⟨O, s1, s2, pay, lot, rent, R, cold, cut⟩⟩ : Tn)], ⟨⟨by (show 1 ≤ T.length); omega, hnew (⟨some ⟨β 6, 0, none⟩, β 7, some ⟨β 8, 0, none⟩, β 9, ⟨O, s1, s2, pay, lot, rent, R, cold, cut⟩⟩ : Tn) rfl⟩, by (have hn0 : n = 0 := hn.symm); (show T.length - 1 < T.length - n); omega⟩, ⟨⟨_, rfl, rfl⟩, ⟨_, rfl, rfl⟩, ⟨_, rfl, rfl⟩, ⟨_, rfl, by rw [← hn]; rfl⟩, trivial⟩,
           ⟨⟨rfl, _, rfl, fun _ => rfl, fun w2 y hy => hy⟩, ⟨rfl, _, rfl, fun _ => rfl, fun w2 y hy => hy⟩, ⟨rfl, _, rfl, fun _ => rfl, fun w2 y hy => hy⟩, ⟨rfl, _, rfl, fun _ => rfl, fun w2 y hy => hy⟩, trivial⟩, rfl, fun w2 hw2 hLo => hh (⟨some ⟨β 6, 0, none⟩, β 7, some ⟨β 8, 0, none⟩, β 9, ⟨O, s1, s2, pay, lot, rent, R, cold, cut⟩⟩ : Tn) w2 hw2 rfl (fun w3 k3 => ⟨rows_st (f := prF) (fun _ => rfl) rfl rfl (hge 6 _ rfl rfl) (hLo 6 (by simp) _ rfl) w3 k3, rows_st (f := prF) (fun _ => rfl) rfl rfl (hge 8 _ rfl rfl) (hLo 8 (by simp) _ rfl) w3 k3, by (show O.length ≤ 1000000); omega, by (show R.length ≤ 1000000); omega⟩)⟩)
         | cons a D =>
          simp only [List.length_cons] at hn
          have hl3 : ∀ t : Tn, (a :: D ++ [t]).length = D.length + 1 + 1 := fun t => by rw [hl2]; omega
          have hoS : ∀ t : Tn, oSV 3 4 (a :: D ++ [t]) = .os 3 4 (D.length + 1 + 1) := fun t => by simp [oSV]
          repeat'
           conv => whnf
           first
            | refine zA ?_ | refine zB ?_ | refine zC ?_ | refine zD ?_ | refine zE ?_ | refine zF ?_ | refine zG ?_ | refine zH ?_ | refine zJ ?_ | refine zI ?_ | refine splT ?_ | refine splF ?_ | refine splNot ?_
            | ((first | refine splIn ?_ ?_ | refine splD ?_ ?_ | refine splE ?_ ?_ | refine splNE ?_ ?_) <;> intro hc <;> first | (exfalso; omega) | (exfalso; dsimp only at hc; omega) | skip)
            | refine Exists.intro (α := List Value) [.slice oo O.length oc, iv s1, iv s2, iv pay, iv lot, iv rent, .slice ro R.length rc, iv cold, iv cut] ⟨⟨rfl, fun w' hw' => e0 w' hw'.1⟩, ?_⟩
            | ((with_reducible show CallEv _ _ 60 [.v (.slice oo O.length oc)] _ _ _ _); refine callO 6 [] (.os 6 7 O.length) O.length 2 (O.flatMap prF) 55 rfl (fun β w' _ hbw => (hO2 w' hbw.1).mono fun _ _ ⟨b, c, h1, h2, h3, h4⟩ => ⟨b, c, h1, h2, h3, h4⟩) ?_)
            | ((with_reducible show CallEv _ _ 60 [.v (.slice ro R.length rc)] _ _ _ _); refine callO 8 [] (.os 8 9 R.length) R.length 2 (R.flatMap prF) 55 rfl (fun β w' _ hbw => (hR2 w' hbw.1).mono fun _ _ ⟨b, c, h1, h2, h3, h4⟩ => ⟨b, c, h1, h2, h3, h4⟩) ?_)
            | refine appG env 10 1 1 [.os 6 7 O.length, .v (iv s1), .v (iv s2), .v (iv pay), .v (iv lot), .v (iv rent), .os 8 9 R.length, .v (iv cold), .v (iv cut)] 57 (D.length + 1) ((a :: D).flatMap Tn.cs) [3] rfl rfl rfl rfl rfl (by decide) rfl rfl rfl (fun h => by cases h) (by omega) (by show (D.length + 1 + 1) * 104 ≤ 140737488355328; omega) rfl (.inr ⟨3, 4, rfl, rfl, rfl, (by show 3 < 11; decide)⟩) rfl ?_
          all_goals first | (exfalso; omega) | skip
          exact Dis.mk5 (w0 := w) (rho [(3, 11), (4, 12)]) [6, 8] (by exact trivial) (fun i hi => by simp only [List.mem_cons, List.not_mem_nil, or_false] at hi; rcases hi with rfl | rfl <;> exact ⟨_, rfl, rfl⟩) (fun w' h => h.1) (fun β w1 hok hw1 hge hne hij => ⟨a :: D ++ [(⟨some ⟨β 6, 0, none⟩, β 7, some ⟨β 8, 0, none⟩, β 9, ⟨O, s1, s2, pay, lot, rent, R, cold, cut⟩⟩ : Tn)], ⟨⟨by have := hl3 (⟨some ⟨β 6, 0, none⟩, β 7, some ⟨β 8, 0, none⟩, β 9, ⟨O, s1, s2, pay, lot, rent, R, cold, cut⟩⟩ : Tn); omega, hnew (⟨some ⟨β 6, 0, none⟩, β 7, some ⟨β 8, 0, none⟩, β 9, ⟨O, s1, s2, pay, lot, rent, R, cold, cut⟩⟩ : Tn) rfl⟩, by have := hl3 (⟨some ⟨β 6, 0, none⟩, β 7, some ⟨β 8, 0, none⟩, β 9, ⟨O, s1, s2, pay, lot, rent, R, cold, cut⟩⟩ : Tn); omega⟩, ⟨⟨_, rfl, rfl⟩, ⟨_, rfl, rfl⟩, ⟨_, rfl, rfl⟩, ⟨_, rfl, by rw [hl3 (⟨some ⟨β 6, 0, none⟩, β 7, some ⟨β 8, 0, none⟩, β 9, ⟨O, s1, s2, pay, lot, rent, R, cold, cut⟩⟩ : Tn), ← hn]; rfl⟩, trivial⟩,
           ⟨⟨rfl, _, rfl, fun _ => rfl, fun w2 y hy => hy⟩, ⟨rfl, _, rfl, fun _ => rfl, fun w2 y hy => hy⟩, ⟨rfl, _, rfl, fun _ => rfl, fun w2 y hy => by rw [hoS (⟨some ⟨β 6, 0, none⟩, β 7, some ⟨β 8, 0, none⟩, β 9, ⟨O, s1, s2, pay, lot, rent, R, cold, cut⟩⟩ : Tn)]; exact hy⟩, by simp [oM]; exact ⟨⟨rfl, _, rfl, fun _ => rfl, fun w2 y hy => by simp [Blk.ok] at hy ⊢; exact hy⟩, trivial⟩⟩, rfl, fun w2 hw2 hLo => hh (⟨some ⟨β 6, 0, none⟩, β 7, some ⟨β 8, 0, none⟩, β 9, ⟨O, s1, s2, pay, lot, rent, R, cold, cut⟩⟩ : Tn) w2 hw2 rfl (fun w3 k3 => ⟨rows_st (f := prF) (fun _ => rfl) rfl rfl (hge 6 _ rfl rfl) (hLo 6 (by simp) _ rfl) w3 k3, rows_st (f := prF) (fun _ => rfl) rfl rfl (hge 8 _ rfl rfl) (hLo 8 (by simp) _ rfl) w3 k3, by (show O.length ≤ 1000000); omega, by (show R.length ≤ 1000000); omega⟩)⟩)
   · have hk2 : D.length = T.length := by omega
     rw [hk2, List.take_of_length_le (Nat.le_of_eq (List.length_map ..))] at hmap
     cases D with
     | nil =>
      have hT0 : T = [] := List.length_eq_zero_iff.1 hk2.symm
      subst hT0
      repeat'
       conv => whnf
       first
        | refine zA ?_ | refine zB ?_ | refine zC ?_ | refine zD ?_ | refine zE ?_ | refine zF ?_ | refine zG ?_ | refine zH ?_ | refine zJ ?_ | refine zI ?_ | refine splT ?_ | refine splF ?_ | refine splNot ?_
        | ((first | refine splIn ?_ ?_ | refine splD ?_ ?_ | refine splE ?_ ?_ | refine splNE ?_ ?_) <;> intro hc <;> first | (exfalso; omega) | (exfalso; dsimp only at hc; omega) | skip)
      all_goals first | (exfalso; omega) | skip
      exact ⟨rfl, Dis.ent (x := ((none, 0), [])) ⟨rfl, Nat.le_refl _⟩ (Ent.weak rfl ⟨rfl, rfl, rfl, trivial⟩ ⟨rfl, rfl, rfl, trivial⟩ fun w2 h => ⟨h.1, fun _ _ => .inl ⟨rfl, rfl⟩, fun t ht => by cases ht⟩)⟩
     | cons a D =>
      simp only [List.length_cons] at hk2
      repeat'
       conv => whnf
       first
        | refine zA ?_ | refine zB ?_ | refine zC ?_ | refine zD ?_ | refine zE ?_ | refine zF ?_ | refine zG ?_ | refine zH ?_ | refine zJ ?_ | refine zI ?_ | refine splT ?_ | refine splF ?_ | refine splNot ?_
        | ((first | refine splIn ?_ ?_ | refine splD ?_ ?_ | refine splE ?_ ?_ | refine splNE ?_ ?_) <;> intro hc <;> first | (exfalso; omega) | (exfalso; dsimp only at hc; omega) | skip)
      all_goals first | (exfalso; omega) | skip
      exact ⟨rfl, Dis.mk5 (w0 := w) id [3] (by exact trivial) (fun i hi => by rw [List.mem_singleton] at hi; subst hi; exact ⟨_, rfl, rfl⟩) (fun w' h => h.1) (fun β w1 hok hw1 hge hne hij => ⟨((some ⟨β 3, 0, none⟩, β 4), a :: D), ⟨hmap, by have := own_cap (hok 3 _ rfl); (show T.length ≤ β 4); omega⟩, ⟨⟨_, rfl, rfl⟩, ⟨_, rfl, rfl⟩, ⟨_, rfl, rfl⟩, trivial⟩, ⟨⟨rfl, _, rfl, fun _ => rfl, fun w2 y hy => hy⟩, ⟨rfl, _, rfl, fun _ => rfl, fun w2 y hy => hy⟩, ⟨rfl, _, rfl, fun _ => rfl, fun w2 y hy => by rw [← hk2]; exact hy⟩, trivial⟩, rfl, fun w2 hw2 hLo => ⟨hw2.1, by rw [← hk2]; exact rows_st (f := Tn.cs) (fun _ => rfl) rfl rfl (hge 3 _ rfl rfl) (hLo 3 (by simp) _ rfl), hw2.2⟩⟩)⟩
 · intro y ⟨hyd, hyc⟩
   have hyl : y.2.length = T.length := by have := congrArg List.length hyd; simpa using this
   refine VC.of env mixed ?_
   repeat'
    conv => whnf
    first
     | refine zA ?_ | refine zB ?_ | refine zC ?_ | refine zD ?_ | refine zE ?_ | refine zF ?_ | refine zG ?_ | refine zH ?_ | refine zJ ?_ | refine zI ?_ | refine splT ?_ | refine splF ?_ | refine splNot ?_
     | ((first | refine splIn ?_ ?_ | refine splD ?_ ?_ | refine splE ?_ ?_ | refine splNE ?_ ?_) <;> intro hc <;> first | (exfalso; omega) | (exfalso; dsimp only at hc; omega) | skip)
   all_goals first | (exfalso; omega) | skip
   refine loopD 5 (fun E : List Lr => [(1, .ptr 0 0), (2, .ptr 1 0), (3, .ptr 2 0), (6, .v (iv E.length))]) (fun E => (0, .cells [.v (iv days), .v (iv shift), .v (iv size), .v (.slice to T.length tc), .v (.slice lo L.length lc)] 25) :: (1, .cells [.v (iv 0), .v (iv 0), .v (iv 0), .v (.slice none 0 0), .v (.slice none 0 0)] 35) :: (2, .cells [.v (iv days), .v (iv shift), .v (iv size), .v (.slice y.1.1 T.length y.1.2), oSV 3 4 E] 35) :: (oM 3 4 1 Lr.cs 61 E)) (fun (E : List Lr) w' => (Below w.heap.size w w' ∧ (St w.heap.size (Rd 9 Tn.cs (.slice y.1.1 T.length y.1.2) y.2) w' ∧ ∀ t ∈ y.2, St w.heap.size (TnIn t) w')) ∧ ∀ r ∈ E, St w.heap.size (Rd 2 prF (.slice r.o r.L.length r.c) r.L) w') (fun E => E.length ≤ L.length ∧ E.map Lr.L = (L.map Lr.L).take E.length) (fun E => L.length - E.length)
    (Dis.ent (x := []) ⟨Nat.zero_le _, rfl⟩ (Ent.weak rfl ⟨rfl, rfl, rfl, rfl, trivial⟩ ⟨rfl, rfl, rfl, trivial⟩ (fun w' h => ⟨h, fun p hp => by cases hp⟩))) (fun E _ => by cases E <;> exact ⟨rfl, rfl⟩) ?_
   intro E ⟨hk, hmap⟩
   rcases Nat.lt_or_ge E.length L.length with hkl | hkl
   · obtain ⟨⟨ro, rc, row⟩, hx⟩ : ∃ b, L[E.length]? = some b := ⟨_, List.getElem?_eq_getElem hkl⟩
     obtain ⟨_, al, rfl, _⟩ := hL.ptr (by omega)
     have e0 := fun (w' : World) hw' => rd_ati (hL.below (w' := w') hw') hx
     have hrow := hLi _ (List.mem_of_getElem? hx)
     have hbl := hBl _ (List.mem_of_getElem? hx)
     dsimp only at hrow hbl
     have hm : (L.map Lr.L)[E.length]? = some row := by rw [List.getElem?_map, hx]; rfl
     have hnew : ∀ t : Lr, t.L = row → (E ++ [t]).map Lr.L = (L.map Lr.L).take (E ++ [t]).length := fun t ht => by
      rw [List.map_append, hmap, List.length_append, List.length_singleton, List.take_add_one, hm]
      show _ ++ [t.L] = _
      rw [ht]; rfl
     have hl2 : ∀ t : Lr, (E ++ [t]).length = E.length + 1 := fun t => by simp
     have hh : ∀ (t : Lr) w', (fun (E : List Lr) w' => (Below w.heap.size w w' ∧ (St w.heap.size (Rd 9 Tn.cs (.slice y.1.1 T.length y.1.2) y.2) w' ∧ ∀ t ∈ y.2, St w.heap.size (TnIn t) w')) ∧ ∀ r ∈ E, St w.heap.size (Rd 2 prF (.slice r.o r.L.length r.c) r.L) w') E w' → St w.heap.size (Rd 2 prF (.slice t.o t.L.length t.c) t.L) w' → (fun (E : List Lr) w' => (Below w.heap.size w w' ∧ (St w.heap.size (Rd 9 Tn.cs (.slice y.1.1 T.length y.1.2) y.2) w' ∧ ∀ t ∈ y.2, St w.heap.size (TnIn t) w')) ∧ ∀ r ∈ E, St w.heap.size (Rd 2 prF (.slice r.o r.L.length r.c) r.L) w') (E ++ [t]) w' := fun t w' hw' ht => ⟨hw'.1, fun r hr => by
      rcases List.mem_append.1 hr with hr | hr
      · exact hw'.2 r hr
      · rw [List.mem_singleton] at hr; subst hr; exact ht⟩
     generalize hn : E.length = n at *
     cases E with
     | nil =>
      repeat'
       conv => whnf
       first
        | refine zA ?_ | refine zB ?_ | refine zC ?_ | refine zD ?_ | refine zE ?_ | refine zF ?_ | refine zG ?_ | refine zH ?_ | refine zJ ?_ | refine zI ?_ | refine splT ?_ | refine splF ?_ | refine splNot ?_
        | ((first | refine splIn ?_ ?_ | refine splD ?_ ?_ | refine splE ?_ ?_ | refine splNE ?_ ?_) <;> intro hc <;> first | (exfalso; omega) | (exfalso; dsimp only at hc; omega) | skip)
        | refine Exists.intro (α := List Value) [.slice ro row.length rc] ⟨⟨rfl, fun w' hw' => e0 w' hw'.1.1⟩, ?_⟩
      all_goals first | (exfalso; omega) | skip
      refine loopN 7 (fun j : Nat => [(1, .ptr 0 0), (2, .ptr 1 0), (3, .ptr 2 0), (6, .v (iv n)), (7, oSV 5 6 (row.take j)), (8, .v (iv j))]) (fun j => (0, .cells [.v (iv days), .v (iv shift), .v (iv size), .v (.slice to T.length tc), .v (.slice (some al) L.length lc)] 25) :: (1, .cells [.v (iv 0), .v (iv 0), .v (iv 0), .v (.slice none 0 0), .v (.slice none 0 0)] 35) :: (2, .cells [.v (iv days), .v (iv shift), .v (iv size), .v (.slice y.1.1 T.length y.1.2), oSV 3 4 ([] : List Lr)] 35) :: (oM 3 4 1 Lr.cs 61 ([] : List Lr) ++ oM 5 6 2 prF 60 (row.take j))) (fun j => j ≤ row.length) (fun j => row.length - j) 0 (Nat.zero_le _) ⟨rfl, rfl, rfl, rfl, rfl, rfl, trivial⟩ ⟨rfl, rfl, rfl, trivial⟩ (fun j _ => by cases row.take j <;> exact ⟨rfl, rfl⟩) ?_
      intro j hj
      rcases Nat.lt_or_ge j row.length with hjl | hjl
      · obtain ⟨⟨p1, p2⟩, hp⟩ : ∃ p, row[j]? = some p := ⟨_, List.getElem?_eq_getElem hjl⟩
        obtain ⟨_, ar, rfl, _⟩ := hrow.ptr (by omega)
        have e1 := fun (w' : World) hw' => rd_fldz (hrow.below (w' := w') hw') hp _ rfl 0 (iv p1) rfl
        have e2 := fun (w' : World) hw' => rd_fldz (hrow.below (w' := w') hw') hp _ rfl 1 (iv p2) rfl
        have ht : row.take (j + 1) = row.take j ++ [(p1, p2)] := by rw [List.take_add_one, hp]; rfl
        have hlen : (row.take j).length = j := by rw [List.length_take]; omega
        generalize row.take j = P at *
        cases P with
        | nil =>
         repeat'
          conv => whnf
          first
           | refine zA ?_ | refine zB ?_ | refine zC ?_ | refine zD ?_ | refine zE ?_ | refine zF ?_ | refine zG ?_ | refine zH ?_ | refine zJ ?_ | refine zI ?_ | refine splT ?_ | refine splF ?_ | refine splNot ?_
           | ((first | refine splIn ?_ ?_ | refine splD ?_ ?_ | refine splE ?_ ?_ | refine splNE ?_ ?_) <;> intro hc <;> first | (exfalso; omega) | (exfalso; dsimp only at hc; omega) | skip)
           | refine Exists.intro (α := List Value) [.slice (some ar) row.length rc] ⟨⟨rfl, fun w' hw' => e0 w' hw'.1.1⟩, ?_⟩
           | refine Exists.intro (α := List Value) [iv p1] ⟨⟨rfl, fun w' hw' => e1 w' hw'.1.1⟩, ?_⟩
           | refine Exists.intro (α := List Value) [iv p2] ⟨⟨rfl, fun w' hw' => e2 w' hw'.1.1⟩, ?_⟩
         all_goals first | (exfalso; omega) | exact ⟨j + 1, by omega, by omega, Ent.ren (rho [(5, 8), (6, 9)]) rfl (by rw [ht]; rfl) ⟨rfl, rfl, rfl, rfl, by rw [ht]; rfl, rfl, trivial⟩ (by rw [ht]; exact ⟨rfl, rfl, rfl, rfl, trivial⟩) fun _ h => h⟩
        | cons q P =>
         simp only [List.length_cons] at hlen
         repeat'
          conv => whnf
          first
           | refine zA ?_ | refine zB ?_ | refine zC ?_ | refine zD ?_ | refine zE ?_ | refine zF ?_ | refine zG ?_ | refine zH ?_ | refine zJ ?_ | refine zI ?_ | refine splT ?_ | refine splF ?_ | refine splNot ?_
           | ((first | refine splIn ?_ ?_ | refine splD ?_ ?_ | refine splE ?_ ?_ | refine splNE ?_ ?_) <;> intro hc <;> first | (exfalso; omega) | (exfalso; dsimp only at hc; omega) | skip)
           | refine Exists.intro (α := List Value) [.slice (some ar) row.length rc] ⟨⟨rfl, fun w' hw' => e0 w' hw'.1.1⟩, ?_⟩
           | refine Exists.intro (α := List Value) [iv p1] ⟨⟨rfl, fun w' hw' => e1 w' hw'.1.1⟩, ?_⟩
           | refine Exists.intro (α := List Value) [iv p2] ⟨⟨rfl, fun w' hw' => e2 w' hw'.1.1⟩, ?_⟩
         all_goals first | (exfalso; omega) | exact ⟨j + 1, by omega, by omega, Ent.ren (rho [(5, 8), (6, 9)]) rfl (by rw [ht]; rfl) ⟨rfl, rfl, rfl, rfl, by rw [ht]; simp [oSV]; rfl, rfl, trivial⟩ (by rw [ht]; exact ⟨rfl, rfl, rfl, by simp [oM]; rfl, trivial⟩) fun _ h => h⟩
      · obtain rfl : j = row.length := by omega
        rw [List.take_length]
        cases row with
        | nil =>
         repeat'
          conv => whnf
          first
           | refine zA ?_ | refine zB ?_ | refine zC ?_ | refine zD ?_ | refine zE ?_ | refine zF ?_ | refine zG ?_ | refine zH ?_ | refine zJ ?_ | refine zI ?_ | refine splT ?_ | refine splF ?_ | refine splNot ?_
           | ((first | refine splIn ?_ ?_ | refine splD ?_ ?_ | refine splE ?_ ?_ | refine splNE ?_ ?_) <;> intro hc <;> first | (exfalso; omega) | (exfalso; dsimp only at hc; omega) | skip)
           | refine Exists.intro (α := List Value) [.slice ro ([] : List (Int × Int)).length rc] ⟨⟨rfl, fun w' hw' => e0 w' hw'.1.1⟩, ?_⟩
         all_goals first | (exfalso; omega) | skip
         exact Dis.ent (x := ([] : List Lr) ++ [(⟨none, 0, []⟩ : Lr)]) ⟨⟨by have := hl2 (⟨none, 0, []⟩ : Lr); omega, hnew (⟨none, 0, []⟩ : Lr) rfl⟩, by have := hl2 (⟨none, 0, []⟩ : Lr); omega⟩ (Ent.ren (rho [(3, 8), (4, 9)]) rfl rfl ⟨rfl, rfl, rfl, by rw [hl2 (⟨none, 0, []⟩ : Lr), ← hn]; rfl, trivial⟩ ⟨rfl, rfl, rfl, rfl, trivial⟩ fun w2 hw2 => hh (⟨none, 0, []⟩ : Lr) w2 hw2 fun _ _ => .inl ⟨rfl, rfl⟩)
        | cons p P =>
         repeat'
          conv => whnf
          first
           | refine zA ?_ | refine zB ?_ | refine zC ?_ | refine zD ?_ | refine zE ?_ | refine zF ?_ | refine zG ?_ | refine zH ?_ | refine zJ ?_ | refine zI ?_ | refine splT ?_ | refine splF ?_ | refine splNot ?_
           | ((first | refine splIn ?_ ?_ | refine splD ?_ ?_ | refine splE ?_ ?_ | refine splNE ?_ ?_) <;> intro hc <;> first | (exfalso; omega) | (exfalso; dsimp only at hc; omega) | skip)
           | refine Exists.intro (α := List Value) [.slice ro (p :: P).length rc] ⟨⟨rfl, fun w' hw' => e0 w' hw'.1.1⟩, ?_⟩
           | refine appG env 7 1 1 [.os 5 6 (P.length + 1)] 61 0 [] [] rfl rfl rfl rfl rfl (by decide) rfl rfl rfl (fun _ => Nat.le_refl _) (by omega) (by decide) rfl (.inl ⟨rfl, rfl, rfl, rfl⟩) rfl ?_
         all_goals first | (exfalso; omega) | skip
         exact Dis.mk5 (w0 := w) (rho [(3, 8), (4, 9)]) [5] (by exact trivial) (fun i hi => by rw [List.mem_singleton] at hi; subst hi; exact ⟨_, rfl, rfl⟩) (fun w' h => h.1.1) (fun β w1 hok hw1 hge hne hij => ⟨([] : List Lr) ++ [(⟨some ⟨β 5, 0, none⟩, β 6, p :: P⟩ : Lr)], ⟨⟨by have := hl2 (⟨some ⟨β 5, 0, none⟩, β 6, p :: P⟩ : Lr); omega, hnew (⟨some ⟨β 5, 0, none⟩, β 6, p :: P⟩ : Lr) rfl⟩, by have := hl2 (⟨some ⟨β 5, 0, none⟩, β 6, p :: P⟩ : Lr); omega⟩, ⟨⟨_, rfl, rfl⟩, ⟨_, rfl, rfl⟩, ⟨_, rfl, rfl⟩, ⟨_, rfl, by rw [hl2 (⟨some ⟨β 5, 0, none⟩, β 6, p :: P⟩ : Lr), ← hn]; rfl⟩, trivial⟩,
          ⟨⟨rfl, _, rfl, fun _ => rfl, fun w2 y hy => hy⟩, ⟨rfl, _, rfl, fun _ => rfl, fun w2 y hy => hy⟩, ⟨rfl, _, rfl, fun _ => rfl, fun w2 y hy => hy⟩, ⟨rfl, _, rfl, fun _ => rfl, fun w2 y hy => hy⟩, trivial⟩, rfl, fun w2 hw2 hLo => hh (⟨some ⟨β 5, 0, none⟩, β 6, p :: P⟩ : Lr) w2 hw2 (rows_st (f := prF) (fun _ => rfl) rfl rfl (hge 5 _ rfl rfl) (hLo 5 (by simp) _ rfl))⟩)
     | cons a E =>
      simp only [List.length_cons] at hn
      have hoS : ∀ t : Lr, oSV 3 4 (a :: E ++ [t]) = .os 3 4 (E.length + 1 + 1) := fun t => by simp [oSV]
      repeat'
       conv => whnf
       first
        | refine zA ?_ | refine zB ?_ | refine zC ?_ | refine zD ?_ | refine zE ?_ | refine zF ?_ | refine zG ?_ | refine zH ?_ | refine zJ ?_ | refine zI ?_ | refine splT ?_ | refine splF ?_ | refine splNot ?_
        | ((first | refine splIn ?_ ?_ | refine splD ?_ ?_ | refine splE ?_ ?_ | refine splNE ?_ ?_) <;> intro hc <;> first | (exfalso; omega) | (exfalso; dsimp only at hc; omega) | skip)
        | refine Exists.intro (α := List Value) [.slice ro row.length rc] ⟨⟨rfl, fun w' hw' => e0 w' hw'.1.1⟩, ?_⟩
      all_goals first | (exfalso; omega) | skip
      refine loopN 7 (fun j : Nat => [(1, .ptr 0 0), (2, .ptr 1 0), (3, .ptr 2 0), (6, .v (iv n)), (7, oSV 5 6 (row.take j)), (8, .v (iv j))]) (fun j => (0, .cells [.v (iv days), .v (iv shift), .v (iv size), .v (.slice to T.length tc), .v (.slice (some al) L.length lc)] 25) :: (1, .cells [.v (iv 0), .v (iv 0), .v (iv 0), .v (.slice none 0 0), .v (.slice none 0 0)] 35) :: (2, .cells [.v (iv days), .v (iv shift), .v (iv size), .v (.slice y.1.1 T.length y.1.2), oSV 3 4 (a :: E : List Lr)] 35) :: (oM 3 4 1 Lr.cs 61 (a :: E : List Lr) ++ oM 5 6 2 prF 60 (row.take j))) (fun j => j ≤ row.length) (fun j => row.length - j) 0 (Nat.zero_le _) ⟨rfl, rfl, rfl, rfl, rfl, rfl, trivial⟩ ⟨rfl, rfl, rfl, rfl, trivial⟩ (fun j _ => by cases row.take j <;> exact ⟨rfl, rfl⟩) ?_
      intro j hj
      rcases Nat.lt_or_ge j row.length with hjl | hjl
      · obtain ⟨⟨p1, p2⟩, hp⟩ : ∃ p, row[j]? = some p := ⟨_, List.getElem?_eq_getElem hjl⟩
        obtain ⟨_, ar, rfl, _⟩ := hrow.ptr (by omega)
        have e1 := fun (w' : World) hw' => rd_fldz (hrow.below (w' := w') hw') hp _ rfl 0 (iv p1) rfl
        have e2 := fun (w' : World) hw' => rd_fldz (hrow.below (w' := w') hw') hp _ rfl 1 (iv p2) rfl
        have ht : row.take (j + 1) = row.take j ++ [(p1, p2)] := by rw [List.take_add_one, hp]; rfl
        have hlen : (row.take j).length = j := by rw [List.length_take]; omega
        generalize row.take j = P at *
        cases P with
        | nil =>
         repeat'
          conv => whnf
          first
           | refine zA ?_ | refine zB ?_ | refine zC ?_ | refine zD ?_ | refine zE ?_ | refine zF ?_ | refine zG ?_ | refine zH ?_ | refine zJ ?_ | refine zI ?_ | refine splT ?_ | refine splF ?_ | refine splNot ?_
           | ((first | refine splIn ?_ ?_ | refine splD ?_ ?_ | refine splE ?_ ?_ | refine splNE ?_ ?_) <;> intro hc <;> first | (exfalso; omega) | (exfalso; dsimp only at hc; omega) | skip)
           | refine Exists.intro (α := List Value) [.slice (some ar) row.length rc] ⟨⟨rfl, fun w' hw' => e0 w' hw'.1.1⟩, ?_⟩
           | refine Exists.intro (α := List Value) [iv p1] ⟨⟨rfl, fun w' hw' => e1 w' hw'.1.1⟩, ?_⟩
           | refine Exists.intro (α := List Value) [iv p2] ⟨⟨rfl, fun w' hw' => e2 w' hw'.1.1⟩, ?_⟩
         all_goals first | (exfalso; omega) | exact ⟨j + 1, by omega, by omega, Ent.ren (rho [(5, 8), (6, 9)]) rfl (by rw [ht]; rfl) ⟨rfl, rfl, rfl, rfl, by rw [ht]; rfl, rfl, trivial⟩ (by rw [ht]; exact ⟨rfl, rfl, rfl, rfl, rfl, trivial⟩) fun _ h => h⟩
        | cons q P =>
         simp only [List.length_cons] at hlen
         repeat'
          conv => whnf
          first
           | refine zA ?_ | refine zB ?_ | refine zC ?_ | refine zD ?_ | refine zE ?_ | refine zF ?_ | refine zG ?_ | refine zH ?_ | refine zJ ?_ | refine zI ?_ | refine splT ?_ | refine splF ?_ | refine splNot ?_
           | ((first | refine splIn ?_ ?_ | refine splD ?_ ?_ | refine splE ?_ ?_ | refine splNE ?_ ?_) <;> intro hc <;> first | (exfalso; omega) | (exfalso; dsimp only at hc; omega) | skip)
           | refine Exists.intro (α := List Value) [.slice (some ar) row.length rc] ⟨⟨rfl, fun w' hw' => e0 w' hw'.1.1⟩, ?_⟩
           | refine Exists.intro (α := List Value) [iv p1] ⟨⟨rfl, fun w' hw' => e1 w' hw'.1.1⟩, ?_⟩
           | refine Exists.intro (α := List Value) [iv p2] ⟨⟨rfl, fun w' hw' => e2 w' hw'.1.1⟩, ?_⟩
         all_goals first | (exfalso; omega) | exact ⟨j + 1, by omega, by omega, Ent.ren (rho [(5, 8), (6, 9)]) rfl (by rw [ht]; rfl) ⟨rfl, rfl, rfl, rfl, by rw [ht]; simp [oSV]; rfl, rfl, trivial⟩ (by rw [ht]; exact ⟨rfl, rfl, rfl, rfl, by simp [oM]; rfl, trivial⟩) fun _ h => h⟩
      · obtain rfl : j = row.length := by omega
        rw [List.take_length]
        cases row with
        | nil =>
         repeat'
          conv => whnf
          first
           | refine zA ?_ | refine zB ?_ | refine zC ?_ | refine zD ?_ | refine zE ?_ | refine zF ?_ | refine zG ?_ | refine zH ?_ | refine zJ ?_ | refine zI ?_ | refine splT ?_ | refine splF ?_ | refine splNot ?_
           | ((first | refine splIn ?_ ?_ | refine splD ?_ ?_ | refine splE ?_ ?_ | refine splNE ?_ ?_) <;> intro hc <;> first | (exfalso; omega) | (exfalso; dsimp only at hc; omega) | skip)
           | refine Exists.intro (α := List Value) [.slice ro ([] : List (Int × Int)).length rc] ⟨⟨rfl, fun w' hw' => e0 w' hw'.1.1⟩, ?_⟩
         all_goals first | (exfalso; omega) | skip
         exact Dis.ent (x := a :: E ++ [(⟨none, 0, []⟩ : Lr)]) ⟨⟨by have := hl2 (⟨none, 0, []⟩ : Lr); omega, hnew (⟨none, 0, []⟩ : Lr) rfl⟩, by have := hl2 (⟨none, 0, []⟩ : Lr); omega⟩ (Ent.ren (rho [(3, 8), (4, 9)]) rfl rfl ⟨rfl, rfl, rfl, by rw [hl2 (⟨none, 0, []⟩ : Lr), ← hn]; rfl, trivial⟩ ⟨rfl, rfl, by rw [hoS (⟨none, 0, []⟩ : Lr)]; rfl, by simp [oM]; rfl, trivial⟩ fun w2 hw2 => hh (⟨none, 0, []⟩ : Lr) w2 hw2 fun _ _ => .inl ⟨rfl, rfl⟩)
        | cons p P =>
         repeat'
          conv => whnf
          first
           | refine zA ?_ | refine zB ?_ | refine zC ?_ | refine zD ?_ | refine zE ?_ | refine zF ?_ | refine zG ?_ | refine zH ?_ | refine zJ ?_ | refine zI ?_ | refine splT ?_ | refine splF ?_ | refine splNot ?_
           | ((first | refine splIn ?_ ?_ | refine splD ?_ ?_ | refine splE ?_ ?_ | refine splNE ?_ ?_) <;> intro hc <;> first | (exfalso; omega) | (exfalso; dsimp only at hc; omega) | skip)
           | refine Exists.intro (α := List Value) [.slice ro (p :: P).length rc] ⟨⟨rfl, fun w' hw' => e0 w' hw'.1.1⟩, ?_⟩
           | refine appG env 7 1 1 [.os 5 6 (P.length + 1)] 61 (E.length + 1) ((a :: E).flatMap Lr.cs) [3] rfl rfl rfl rfl rfl (by decide) rfl rfl rfl (fun h => by cases h) (by omega) (by show (E.length + 1 + 1) * 24 ≤ 140737488355328; omega) rfl (.inr ⟨3, 4, rfl, rfl, rfl, (by show 3 < 8; decide)⟩) rfl ?_
         all_goals first | (exfalso; omega) | skip
         exact Dis.mk5 (w0 := w) (rho [(3, 8), (4, 9)]) [5] (by exact trivial) (fun i hi => by rw [List.mem_singleton] at hi; subst hi; exact ⟨_, rfl, rfl⟩) (fun w' h => h.1.1) (fun β w1 hok hw1 hge hne hij => ⟨a :: E ++ [(⟨some ⟨β 5, 0, none⟩, β 6, p :: P⟩ : Lr)], ⟨⟨by have := hl2 (⟨some ⟨β 5, 0, none⟩, β 6, p :: P⟩ : Lr); omega, hnew (⟨some ⟨β 5, 0, none⟩, β 6, p :: P⟩ : Lr) rfl⟩, by have := hl2 (⟨some ⟨β 5, 0, none⟩, β 6, p :: P⟩ : Lr); omega⟩, ⟨⟨_, rfl, rfl⟩, ⟨_, rfl, rfl⟩, ⟨_, rfl, rfl⟩, ⟨_, rfl, by rw [hl2 (⟨some ⟨β 5, 0, none⟩, β 6, p :: P⟩ : Lr), ← hn]; rfl⟩, trivial⟩,
          ⟨⟨rfl, _, rfl, fun _ => rfl, fun w2 y hy => hy⟩, ⟨rfl, _, rfl, fun _ => rfl, fun w2 y hy => hy⟩, ⟨rfl, _, rfl, fun _ => rfl, fun w2 y hy => by rw [hoS (⟨some ⟨β 5, 0, none⟩, β 6, p :: P⟩ : Lr)]; exact hy⟩, by simp [oM]; exact ⟨⟨rfl, _, rfl, fun _ => rfl, fun w2 y hy => by simp [Blk.ok] at hy ⊢; exact hy⟩, trivial⟩⟩, rfl, fun w2 hw2 hLo => hh (⟨some ⟨β 5, 0, none⟩, β 6, p :: P⟩ : Lr) w2 hw2 (rows_st (f := prF) (fun _ => rfl) rfl rfl (hge 5 _ rfl rfl) (hLo 5 (by simp) _ rfl))⟩)
   · have hk2 : E.length = L.length := by omega
     rw [hk2, List.take_of_length_le (Nat.le_of_eq (List.length_map ..))] at hmap
     have hfin : ∀ (o : Option Addr) (c : Nat) w2, ((St w.heap.size (Rd 9 Tn.cs (.slice y.1.1 T.length y.1.2) y.2) w2 ∧ ∀ t ∈ y.2, St w.heap.size (TnIn t) w2) ∧ ∀ r ∈ E, St w.heap.size (Rd 2 prF (.slice r.o r.L.length r.c) r.L) w2) → Rd 1 Lr.cs (.slice o E.length c) E w2 → TrIn ⟨days, shift, size, y.1.1, y.1.2, y.2, o, c, E⟩ w2 := fun o c w2 hw2 hr =>
      ⟨by (show Rd 9 Tn.cs (.slice y.1.1 y.2.length y.1.2) y.2 w2); rw [hyl]; exact St.now hw2.1.1, fun t ht => St.now (hw2.1.2 t ht), hr, fun r hr => St.now (hw2.2 r hr), by (show y.2.length ≤ 1000000); omega, by (show E.length ≤ 1000000); omega, fun r hr => by
       have h1 : r.L ∈ L.map Lr.L := by rw [← hmap]; exact List.mem_map.2 ⟨r, hr, rfl⟩
       obtain ⟨r', h2, h3⟩ := List.mem_map.1 h1
       have := hBl r' h2
       rw [h3] at this
       omega, by (show y.2.length ≤ y.1.2); omega⟩
     have hkeep : ∀ w1 w2, (fun (E : List Lr) w' => (Below w.heap.size w w' ∧ (St w.heap.size (Rd 9 Tn.cs (.slice y.1.1 T.length y.1.2) y.2) w' ∧ ∀ t ∈ y.2, St w.heap.size (TnIn t) w')) ∧ ∀ r ∈ E, St w.heap.size (Rd 2 prF (.slice r.o r.L.length r.c) r.L) w') E w1 → Keep w.heap.size w1 w2 → ((St w.heap.size (Rd 9 Tn.cs (.slice y.1.1 T.length y.1.2) y.2) w2 ∧ ∀ t ∈ y.2, St w.heap.size (TnIn t) w2) ∧ ∀ r ∈ E, St w.heap.size (Rd 2 prF (.slice r.o r.L.length r.c) r.L) w2) := fun w1 w2 h k => ⟨⟨h.1.2.1.keep k, fun t ht => (h.1.2.2 t ht).keep k⟩, fun r hr => (h.2 r hr).keep k⟩
     have hyd2 : ∀ (o : Option Addr) (c : Nat), Tr.d ⟨days, shift, size, y.1.1, y.1.2, y.2, o, c, E⟩ = Tr.d ⟨days, shift, size, to, tc, T, lo, lc, L⟩ := fun o c => by simp only [Tr.d, hyd, hmap]
     have hval : ∀ (o : Option Addr) (c : Nat), Value.agg #[iv days, iv shift, iv size, .slice y.1.1 T.length y.1.2, .slice o E.length c] = Tr.v ⟨days, shift, size, y.1.1, y.1.2, y.2, o, c, E⟩ := fun o c => by simp only [Tr.v, hyl]
     cases E with
     | nil =>
      repeat'
       conv => whnf
       first
        | refine zA ?_ | refine zB ?_ | refine zC ?_ | refine zD ?_ | refine zE ?_ | refine zF ?_ | refine zG ?_ | refine zH ?_ | refine zJ ?_ | refine zI ?_ | refine splT ?_ | refine splF ?_ | refine splNot ?_
        | ((first | refine splIn ?_ ?_ | refine splD ?_ ?_ | refine splE ?_ ?_ | refine splNE ?_ ?_) <;> intro hc <;> first | (exfalso; omega) | (exfalso; dsimp only at hc; omega) | skip)
      all_goals first | (exfalso; omega) | skip
      exact ⟨fun w' h => h.1.1, fun β w' hw' hblk => ⟨⟨days, shift, size, y.1.1, y.1.2, y.2, none, 0, []⟩, hval none 0, fun w2 k2 => ⟨hfin none 0 w2 (hkeep w' w2 hw' k2) (.inl ⟨rfl, rfl⟩), hyd2 none 0⟩⟩⟩
     | cons a E =>
      repeat'
       conv => whnf
       first
        | refine zA ?_ | refine zB ?_ | refine zC ?_ | refine zD ?_ | refine zE ?_ | refine zF ?_ | refine zG ?_ | refine zH ?_ | refine zJ ?_ | refine zI ?_ | refine splT ?_ | refine splF ?_ | refine splNot ?_
        | ((first | refine splIn ?_ ?_ | refine splD ?_ ?_ | refine splE ?_ ?_ | refine splNE ?_ ?_) <;> intro hc <;> first | (exfalso; omega) | (exfalso; dsimp only at hc; omega) | skip)
      all_goals first | (exfalso; omega) | skip
      exact ⟨fun w' h => h.1.1, fun β w' hw' hblk => ⟨⟨days, shift, size, y.1.1, y.1.2, y.2, some ⟨β 3, 0, none⟩, β 4, a :: E⟩, hval (some ⟨β 3, 0, none⟩) (β 4), fun w2 k2 => ⟨hfin (some ⟨β 3, 0, none⟩) (β 4) w2 (hkeep w' w2 hw' k2) (Rd.of_owns (sz := 1) (f := Lr.cs) (fun _ => rfl) rfl rfl (hblk 3 _ rfl rfl w2 k2)), hyd2 (some ⟨β 3, 0, none⟩) (β 4)⟩⟩⟩
end Go.Proofs.Ythfabodamhdhaaa
namespace Go.Proofs.Ythfabodamhdhaaa
open Go Tx Go.RowKit
set_option linter.unusedSimpArgs false
set_option linter.unusedVariables false
def RI (ty : Nat) (o : Option Addr) (c : Nat) (L : List (Int × Int)) (w : World) : Prop := (L = [] ∧ o = none ∧ c = 0) ∨ L ≠ [] ∧ ∃ b, o = some ⟨b, 0, none⟩ ∧ w.ownsRow 0 ty 2 (.slice o L.length c) L.length (L.flatMap prF)
def bkO : Option Addr → List Nat
 | none => []
 | some a => [a.block]
theorem RI.cells {ty : Nat} {o : Option Addr} {c : Nat} {L : List (Int × Int)} {w : World} (h : RI ty o c L w) {b : Nat} (hb : b ∈ bkO o) : ∃ cs fr, w.heap[b]? = some (.cells cs ty fr) := by
 rcases h with ⟨_, rfl, _⟩ | ⟨_, b', rfl, h⟩
 · cases hb
 · simp only [bkO, List.mem_singleton] at hb
   subst hb
   obtain ⟨cur, hc⟩ := own_heap h
   exact ⟨cur, _, hc⟩
theorem RI.keep {ty : Nat} {o : Option Addr} {c : Nat} {L : List (Int × Int)} {w w2 : World} (h : RI ty o c L w) (hk : ∀ b ∈ bkO o, w2.heap[b]? = w.heap[b]?) : RI ty o c L w2 := by
 rcases h with h | ⟨h0, b', rfl, h⟩
 · exact .inl h
 · exact .inr ⟨h0, b', rfl, own_keep h (hk _ (by simp [bkO]))⟩
theorem RI.rd {ty : Nat} {o : Option Addr} {c : Nat} {L : List (Int × Int)} {w : World} (h : RI ty o c L w) : Rd 2 prF (.slice o L.length c) L w := by
 rcases h with ⟨rfl, rfl, rfl⟩ | ⟨_, b', rfl, h⟩
 · exact .inl ⟨rfl, rfl⟩
 · exact Rd.of_owns (sz := 2) (f := prF) (fun _ => rfl) rfl rfl h
end Go.Proofs.Ythfabodamhdhaaa
namespace Go.Proofs.Ythfabodamhdhaaa.Tx
open Go Go.RowKit
set_option linter.unusedSimpArgs false
set_option linter.unusedVariables false
end Go.Proofs.Ythfabodamhdhaaa.Tx
namespace Go.Proofs.Ythfabodamhdhaaa
open Go Tx Go.RowKit
set_option linter.unusedSimpArgs false
set_option linter.unusedVariables false
theorem flat_set {α : Type} {sz : Nat} {f : α → List Value} (hf : ∀ x, (f x).length = sz) : ∀ (bs : List α) (k j : Nat) (b b' : α) (v : Value), bs[k]? = some b → j < sz → f b' = (f b).set j v → (bs.flatMap f).set (k * sz + j) v = (bs.set k b').flatMap f
 | a :: r, 0, j, b, b', v, h, hj, e => by
  simp only [List.getElem?_cons_zero, Option.some.injEq] at h
  subst h
  rw [Nat.zero_mul, Nat.zero_add, List.set_cons_zero, List.flatMap_cons, List.flatMap_cons, e, List.set_append_left _ _ (by rw [hf]; exact hj)]
 | a :: r, k + 1, j, b, b', v, h, hj, e => by
  rw [List.set_cons_succ, List.flatMap_cons, List.flatMap_cons, ← flat_set hf r k j b b' v (by simpa using h) hj e, List.set_append_right _ _ (by rw [hf, Nat.add_mul]; omega), hf]
  congr 2
  rw [Nat.add_mul]; omega
theorem flat_len {α : Type} {sz : Nat} {f : α → List Value} (hf : ∀ x, (f x).length = sz) (bs : List α) : (bs.flatMap f).length = bs.length * sz := by
 induction bs with
 | nil => simp
 | cons a r ih => rw [List.flatMap_cons, List.length_append, hf, ih, List.length_cons, Nat.add_mul]; omega
end Go.Proofs.Ythfabodamhdhaaa
namespace Go.Proofs.Ythfabodamhdhaaa
open Go Tx Go.RowKit
set_option linter.unusedSimpArgs false
set_option linter.unusedVariables false
def atI (A : List Int) (i : Nat) : Int := (A[i]?).getD 0
theorem atI_get {A : List Int} {i : Nat} (h : i < A.length) : A[i]? = some (atI A i) := by
 unfold atI; rw [List.getElem?_eq_getElem h]; rfl
theorem atI_set {A : List Int} {k i : Nat} {v : Int} (hk : k < A.length) : atI (A.set k v) i = if i = k then v else atI A i := by
 unfold atI
 by_cases e : i = k
 · subst e; rw [List.getElem?_set_self hk, if_pos rfl]; rfl
 · rw [List.getElem?_set_ne (Ne.symm e), if_neg e]
theorem yatS {L : List Int} {k : Nat} {n : Int} (h : L[k]? = some n) : ∀ j v, [iv n][j]? = some v → (L.flatMap iF)[(k : Int).toNat * 1 + j]? = some v := fun j v hj => by
 have := flat_get (f := iF) (sz := 1) (fun _ => rfl) L k j n v h hj
 rw [Int.toNat_natCast]; exact this
theorem ystS {L : List Int} {k : Nat} (hk : k < L.length) (n : Int) : (k : Int).toNat * 1 + [iv n].length ≤ (L.flatMap iF).length := by
 rw [flat_len (sz := 1) (fun _ => rfl), Int.toNat_natCast, List.length_singleton]; omega
theorem ystE {L : List Int} {k : Nat} (hk : k < L.length) (n : Int) : (L.flatMap iF).take ((k : Int).toNat * ti3.size) ++ [iv n] ++ (L.flatMap iF).drop ((k : Int).toNat * ti3.size + [iv n].length) = (L.set k n).flatMap iF := by
 rw [show ti3.size = 1 from rfl, Int.toNat_natCast]
 obtain ⟨b, hb⟩ : ∃ b, L[k]? = some b := ⟨_, List.getElem?_eq_getElem hk⟩
 have h1 := flat_set (f := iF) (sz := 1) (fun _ => rfl) L k 0 b n (iv n) hb (by decide) rfl
 rw [← h1, List.set_eq_take_append_cons_drop, if_pos (by rw [flat_len (sz := 1) (fun _ => rfl)]; omega), Nat.add_zero, List.length_singleton, List.append_assoc]
 rfl
structure FrOk (D : List Mk) (K : Nat) (A : List Int) (t : Nat) : Prop where
 b : 0 ≤ atI A t ∧ atI A t ≤ 1000000000
 le : (mkA D t).op = true → ∀ s, t < s → s ≤ D.length → fdB D K t s = true → atI A t ≤ prO D t s + atI A s
 at' : atI A t = 1000000000 ∨ (mkA D t).op = true ∧ ∃ s, t < s ∧ s ≤ D.length ∧ fdB D K t s = true ∧ atI A t = prO D t s + atI A s
def BtOk (D : List Mk) (A B : List Int) (t : Nat) : Prop := atI B t = if (mkA D t).nd = 0 then imin (atI A t) (atI B (t + 1)) else atI A t
structure ByOk (D : List Mk) (K m : Nat) (A B : List Int) : Prop where
 l : A.length = D.length + 1 ∧ B.length = D.length + 1
 z : atI A D.length = 0 ∧ atI B D.length = 0
 f : ∀ t, m ≤ t → t < D.length → FrOk D K A t
 t : ∀ t, m ≤ t → t < D.length → BtOk D A B t
theorem FrOk.congr {D : List Mk} {K : Nat} {A A' : List Int} {t : Nat} (h : FrOk D K A t) (e : ∀ i, t ≤ i → atI A' i = atI A i) : FrOk D K A' t := by
 obtain ⟨h1, h2, h3⟩ := h
 refine ⟨by rw [e t (Nat.le_refl _)]; exact h1, fun ho s hs hsn hf => by rw [e t (Nat.le_refl _), e s (by omega)]; exact h2 ho s hs hsn hf, ?_⟩
 rw [e t (Nat.le_refl _)]
 rcases h3 with h3 | ⟨ho, s, hs, hsn, hf, h4⟩
 · exact .inl h3
 · exact .inr ⟨ho, s, hs, hsn, hf, by rw [e s (by omega)]; exact h4⟩
theorem tb_bd {D : List Mk} {K m : Nat} {A B : List Int} (h : ByOk D K m A B) : ∀ k t, D.length - t = k → m ≤ t → t ≤ D.length → 0 ≤ atI B t ∧ atI B t ≤ 1000000000
 | 0, t, hk, hm, ht => by
  obtain rfl : t = D.length := by omega
  rw [h.z.2]; decide
 | k + 1, t, hk, hm, ht => by
  have ih := tb_bd h k (t + 1) (by omega) (by omega) (by omega)
  have h1 := h.t t hm (by omega)
  have h2 := (h.f t hm (by omega)).b
  unfold BtOk at h1
  have h3 := imin_eq (atI A t) (atI B (t + 1))
  split at h1 <;> omega
theorem fr_bd {D : List Mk} {K m : Nat} {A B : List Int} (h : ByOk D K m A B) {t : Nat} (hm : m ≤ t) (ht : t ≤ D.length) : 0 ≤ atI A t ∧ atI A t ≤ 1000000000 := by
 by_cases e : t = D.length
 · subst e; rw [h.z.1]; decide
 · exact (h.f t hm (by omega)).b
theorem fd_mono {D : List Mk} {K : Nat} (hR : RoadOk D K) {t s s' : Nat} (h1 : t ≤ s) (h2 : s ≤ s') (h3 : s' ≤ D.length) (h : fdB D K t s' = true) : fdB D K t s = true := by
 unfold fdB at h ⊢
 rw [decide_eq_true_eq] at h ⊢
 by_cases hk : s ≤ t + K
 · rw [show min s (t + K) = s from by omega]; omega
 · have e1 : min s (t + K) = t + K := by omega
   have e2 : min s' (t + K) = t + K := by omega
   rw [e1]
   rw [e2] at h
   have := pS_le hR (show s ≤ s' from h2) h3
   have := pS_le hR (show t + K ≤ s by omega) (by omega)
   omega
structure FrP (D : List Mk) (K t : Nat) (A : List Int) (a : Int) (s : Nat) : Prop where
 b : 0 ≤ a ∧ a ≤ 1000000000
 le : ∀ s', t < s' → s' < s → fdB D K t s' = true → a ≤ prO D t s' + atI A s'
 at' : a = 1000000000 ∨ ∃ s', t < s' ∧ s' ≤ D.length ∧ fdB D K t s' = true ∧ a = prO D t s' + atI A s'
theorem FrP.next {D : List Mk} {K t : Nat} {A : List Int} {a : Int} {s : Nat} (h : FrP D K t A a s) (hs : t < s ∧ s ≤ D.length) (hf : fdB D K t s = true) (hb : 0 ≤ prO D t s + atI A s) : FrP D K t A (imin a (prO D t s + atI A s)) (s + 1) := by
 have e := imin_eq a (prO D t s + atI A s)
 have h1 := h.b
 refine ⟨by omega, fun s' h2 h3 h4 => ?_, ?_⟩
 · by_cases e2 : s' = s
   · subst e2; omega
   · have := h.le s' h2 (by omega) h4; omega
 · rcases (by omega : imin a (prO D t s + atI A s) = a ∨ imin a (prO D t s + atI A s) = prO D t s + atI A s) with e2 | e2
   · rw [e2]; exact h.at'
   · rw [e2]; exact .inr ⟨s, hs.1, hs.2, hf, rfl⟩
theorem by_nil {D : List Mk} {K : Nat} : ByOk D K D.length (List.replicate (D.length + 1) 0) (List.replicate (D.length + 1) 0) := by
 have e : atI (List.replicate (D.length + 1) 0) D.length = 0 := by unfold atI; rw [List.getElem?_replicate, if_pos (by omega)]; rfl
 exact ⟨⟨by simp, by simp⟩, ⟨e, e⟩, fun t h1 h2 => by omega, fun t h1 h2 => by omega⟩
theorem ByOk.step {D : List Mk} {K t : Nat} {A B : List Int} {a b : Int} (h : ByOk D K (t + 1) A B) (ht : t < D.length) (ho : (mkA D t).op = true → ∀ s, t < s → s ≤ D.length → fdB D K t s = true → a ≤ prO D t s + atI A s) (hb : 0 ≤ a ∧ a ≤ 1000000000)
 (hat : a = 1000000000 ∨ (mkA D t).op = true ∧ ∃ s, t < s ∧ s ≤ D.length ∧ fdB D K t s = true ∧ a = prO D t s + atI A s) (hB : b = if (mkA D t).nd = 0 then imin a (atI B (t + 1)) else a) : ByOk D K t (A.set t a) (B.set t b) := by
 obtain ⟨⟨l1, l2⟩, ⟨z1, z2⟩, hf, htb⟩ := h
 have hA : ∀ i, atI (A.set t a) i = if i = t then a else atI A i := fun i => atI_set (by omega)
 have hBB : ∀ i, atI (B.set t b) i = if i = t then b else atI B i := fun i => atI_set (by omega)
 refine ⟨⟨by rw [List.length_set]; exact l1, by rw [List.length_set]; exact l2⟩, ⟨by rw [hA, if_neg (by omega)]; exact z1, by rw [hBB, if_neg (by omega)]; exact z2⟩, fun i h1 h2 => ?_, fun i h1 h2 => ?_⟩
 · by_cases e : i = t
   · subst e
     refine ⟨by rw [hA, if_pos rfl]; exact hb, fun ho' s h3 h4 h5 => by rw [hA, if_pos rfl, hA, if_neg (by omega)]; exact ho ho' s h3 h4 h5, ?_⟩
     rw [hA, if_pos rfl]
     rcases hat with h6 | ⟨h6, s, h7, h8, h9, h10⟩
     · exact .inl h6
     · exact .inr ⟨h6, s, h7, h8, h9, by rw [hA, if_neg (by omega)]; exact h10⟩
   · exact (hf i (by omega) h2).congr fun j hj => by rw [hA, if_neg (by omega)]
 · unfold BtOk
   by_cases e : i = t
   · subst e
     have e1 : atI (B.set i b) (i + 1) = atI B (i + 1) := by rw [hBB, if_neg (by omega)]
     have e2 : atI (B.set i b) i = b := by rw [hBB, if_pos rfl]
     have e3 : atI (A.set i a) i = a := by rw [hA, if_pos rfl]
     rw [e1, e2, e3]
     exact hB
   · have := htb i (by omega) h2
     unfold BtOk at this
     have e1 : atI (B.set t b) (i + 1) = atI B (i + 1) := by rw [hBB, if_neg (by omega)]
     have e2 : atI (B.set t b) i = atI B i := by rw [hBB, if_neg e]
     have e3 : atI (A.set t a) i = atI A i := by rw [hA, if_neg e]
     rw [e1, e2, e3]
     exact this
abbrev ByS (D : List Mk) (K : Nat) := Nat × List Int × List Int
set_option maxHeartbeats 4000000 in
set_option maxRecDepth 100000 in
theorem buy_ok (D : List Mk) (K : Nat) (o : Option Addr) (c : Nat) (w : World) (h : RdR o c D w) (hR : RoadOk D K) :
 Calls Try.prog 87 #[rdV o D.length c K] w fun e w' => ∃ y : {y : (List Int × List Int) × (Addr × Nat) × (Addr × Nat) // ByOk D K 0 y.1.1 y.1.2}, e = .returned (.agg #[.slice o D.length c, iv K, .slice (some y.1.2.1.1) (D.length + 1) y.1.2.1.2, .slice (some y.1.2.2.1) (D.length + 1) y.1.2.2.2]) ∧ Below w.heap.size w w' ∧
  St w.heap.size (fun w2 => Rd 1 iF (.slice (some y.1.2.1.1) (D.length + 1) y.1.2.1.2) y.1.1.1 w2 ∧ Rd 1 iF (.slice (some y.1.2.2.1) (D.length + 1) y.1.2.2.2) y.1.1.2 w2) w' := by
 have hl := hR.l
 have hk := hR.k
 obtain ⟨_, ad, rfl, _⟩ := h.r.ptr (by omega)
 have h127 := fun a b h1 h2 h3 w' hb => price_ok D K (some ad) c a b w' (h.below hb) hR h1 h2 h3
 have h126 := fun a b h1 h2 w' hb => feeds_ok D K (some ad) c a b w' (h.below hb) hR h1 h2
 have hd := h.r
 refine calls_fam env mixed Try.func87 has87 Try.ntmps87 [.agg #[.slice (some ad) D.length c, iv K]] (by simp) ?_
 repeat'
  conv => whnf
  first
   | refine zA ?_ | refine zB ?_ | refine zC ?_ | refine zD ?_ | refine zE ?_ | refine zF ?_ | refine zG ?_ | refine zH ?_ | refine zJ ?_ | refine zI ?_ | refine splT ?_ | refine splF ?_ | refine splNot ?_
   | ((first | refine splIn ?_ ?_ | refine splD ?_ ?_ | refine splE ?_ ?_ | refine splNE ?_ ?_) <;> intro hc <;> first | (exfalso; omega) | (exfalso; dsimp only at hc; omega) | skip)
   | refine mkO env 2 (D.length + 1) ((List.replicate (D.length + 1) (0 : Int)).flatMap iF) rfl rfl rfl (by decide) rfl (by omega) (by decide) (by rw [List.flatMap_replicate]; rfl) rfl ?_
   | refine mkO env 4 (D.length + 1) ((List.replicate (D.length + 1) (0 : Int)).flatMap iF) rfl rfl rfl (by decide) rfl (by omega) (by decide) (by rw [List.flatMap_replicate]; rfl) rfl ?_
 all_goals first | (exfalso; omega) | skip
 refine loopE (fun x : ByS D K => [(1, .ptr 0 0), (2, .ptr 1 0), (3, .v (iv D.length)), (4, .ptr 6 0), (5, .v (iv ((x.1 : Int) - 1)))]) (fun x => [(0, .cells [.v (.slice (some ad) D.length c), .v (iv K)] 107), (1, .cells [.v (.slice none 0 0), .v (iv 0), .v (.slice none 0 0), .v (.slice none 0 0)] 160), (2, .own 3 (D.length + 1) 1 (x.2.1.flatMap iF) 3), (4, .own 5 (D.length + 1) 1 (x.2.2.flatMap iF) 3), (6, .cells [.v (.slice (some ad) D.length c), .v (iv K), .os 2 3 (D.length + 1), .os 4 5 (D.length + 1)] 160)]) (fun x => x.1 ≤ D.length ∧ ByOk D K x.1 x.2.1 x.2.2) (fun x => x.1) (D.length, List.replicate (D.length + 1) 0, List.replicate (D.length + 1) 0)
  ⟨Nat.le_refl _, by_nil⟩ ⟨rfl, rfl, rfl, rfl, rfl, trivial⟩ ⟨rfl, rfl, rfl, rfl, rfl, trivial⟩ (fun _ => ⟨rfl, rfl⟩) ?_
 rintro ⟨m, A, B⟩ ⟨hm, hby⟩
 dsimp only at hm hby ⊢
 obtain ⟨hlA, hlB⟩ := hby.l
 rcases Nat.eq_zero_or_pos m with rfl | hm0
 · skip
   repeat'
    conv => whnf
    first
     | refine zA ?_ | refine zB ?_ | refine zC ?_ | refine zD ?_ | refine zE ?_ | refine zF ?_ | refine zG ?_ | refine zH ?_ | refine zJ ?_ | refine zI ?_ | refine splT ?_ | refine splF ?_ | refine splNot ?_
     | ((first | refine splIn ?_ ?_ | refine splD ?_ ?_ | refine splE ?_ ?_ | refine splNE ?_ ?_) <;> intro hc <;> first | (exfalso; omega) | (exfalso; dsimp only at hc; omega) | skip)
   all_goals first | (exfalso; omega) | exact ⟨fun w' h => h, fun β w' hB hblk => ⟨⟨((A, B), (⟨β 2, 0, none⟩, β 3), (⟨β 4, 0, none⟩, β 5)), hby⟩, rfl, fun w2 k2 => ⟨Rd.of_owns (sz := 1) (f := iF) (fun _ => rfl) rfl hlA.symm (hblk 2 _ rfl rfl w2 k2), Rd.of_owns (sz := 1) (f := iF) (fun _ => rfl) rfl hlB.symm (hblk 4 _ rfl rfl w2 k2)⟩⟩⟩
 · obtain ⟨t, rfl⟩ : ∃ t, m = t + 1 := ⟨m - 1, by omega⟩
   have et : ((t + 1 : Nat) : Int) - 1 = t := by omega
   rw [et]
   have htn : t < D.length := by omega
   have htA : t < A.length := by omega
   have htB : t < B.length := by omega
   obtain ⟨⟨nd, pr, tr, op⟩, hmk⟩ : ∃ b, D[t]? = some b := ⟨_, List.getElem?_eq_getElem htn⟩
   have emk : mkA D t = ⟨nd, pr, tr, op⟩ := by unfold mkA; rw [hmk]; rfl
   have eO := fun (w' : World) hw' => rd_fld (hd.below (w' := w') hw') hmk 3 (.bool op) rfl
   have eN := fun (w' : World) hw' => rd_fld (hd.below (w' := w') hw') hmk 0 (iv nd) rfl
   have eb := tb_bd hby (D.length - (t + 1)) (t + 1) rfl (Nat.le_refl _) (by omega)
   have hB1 : B[t + 1]? = some (atI B (t + 1)) := atI_get (by omega)
   generalize hb1 : atI B (t + 1) = b1 at *
   have key : ∀ a : Int, 0 ≤ a ∧ a ≤ 1000000000 → (op = true → ∀ s, t < s → s ≤ D.length → fdB D K t s = true → a ≤ prO D t s + atI A s) → (a = 1000000000 ∨ op = true ∧ ∃ s, t < s ∧ s ≤ D.length ∧ fdB D K t s = true ∧ a = prO D t s + atI A s) → ∀ b, (b = if nd = 0 then imin a b1 else a) → ByOk D K t (A.set t a) (B.set t b) := fun a ha hle hat b hb =>
    hby.step htn (by rw [emk]; exact hle) ha (by rw [emk]; exact hat) (by rw [emk, hb1]; exact hb)
   have hAt : ∀ a : Int, (A.set t a)[t]? = some a := fun a => List.getElem?_set_self htA
   have hBt : ∀ a : Int, (B.set t a)[t]? = some a := fun a => List.getElem?_set_self htB
   have hBs : ∀ a : Int, (B.set t a)[t + 1]? = some b1 := fun a => by rw [List.getElem?_set_ne (by omega)]; exact hB1
   have htA2 : ∀ a : Int, t < (A.set t a).length := fun a => by rw [List.length_set]; exact htA
   have htB2 : ∀ a : Int, t < (B.set t a).length := fun a => by rw [List.length_set]; exact htB
   clear hmk
   cases op with
   | false =>
    have hkey := key 1000000000 (by decide) (fun h => by cases h) (.inl rfl)
    clear key h127 h126
    repeat'
     conv => whnf
     first
      | refine zA ?_ | refine zB ?_ | refine zC ?_ | refine zD ?_ | refine zE ?_ | refine zF ?_ | refine zG ?_ | refine zH ?_ | refine zJ ?_ | refine zI ?_ | refine splT ?_ | refine splF ?_ | refine splNot ?_
      | ((first | refine splIn ?_ ?_ | refine splD ?_ ?_ | refine splE ?_ ?_ | refine splNE ?_ ?_) <;> intro hc <;> first | (exfalso; omega) | (exfalso; dsimp only at hc; omega) | skip)
      | refine Exists.intro (α := List Value) [.bool false] ⟨⟨rfl, fun w' hw' => eO w' hw'⟩, ?_⟩
      | (refine And.intro (a := _ + _ ≤ List.length _) (ystS htA _) ?_; rw [ystE htA])
      | (refine And.intro (a := _ + _ ≤ List.length _) (ystS htB _) ?_; rw [ystE htB])
      | refine Exists.intro (α := List Value) [iv nd] ⟨⟨rfl, fun w' hw' => eN w' hw'⟩, ?_⟩
      | refine Exists.intro (α := List Value) [iv 1000000000] ⟨⟨rfl, yatS (hAt 1000000000)⟩, ?_⟩
      | refine Exists.intro (α := List Value) [iv 1000000000] ⟨⟨rfl, yatS (hBt 1000000000)⟩, ?_⟩
      | refine Exists.intro (α := List Value) [iv b1] ⟨⟨rfl, yatS (hBs 1000000000)⟩, ?_⟩
      | (refine And.intro (a := _ + _ ≤ List.length _) (ystS (htB2 _) _) ?_; rw [ystE (htB2 _), List.set_set])
    all_goals first | (exfalso; omega) | exact ⟨(t, A.set t 1000000000, B.set t (imin 1000000000 b1)), ⟨by omega, hkey _ (by rw [if_pos (by assumption)])⟩, by omega, Ent.weak rfl ⟨rfl, rfl, rfl, rfl, rfl, trivial⟩ ⟨rfl, rfl, rfl, rfl, rfl, trivial⟩ fun _ h => h⟩ | exact ⟨(t, A.set t 1000000000, B.set t 1000000000), ⟨by omega, hkey _ (by rw [if_neg (by assumption)])⟩, by omega, Ent.weak rfl ⟨rfl, rfl, rfl, rfl, rfl, trivial⟩ ⟨rfl, rfl, rfl, rfl, rfl, trivial⟩ fun _ h => h⟩
   | true =>
    repeat'
     conv => whnf
     first
      | refine zA ?_ | refine zB ?_ | refine zC ?_ | refine zD ?_ | refine zE ?_ | refine zF ?_ | refine zG ?_ | refine zH ?_ | refine zJ ?_ | refine zI ?_ | refine splT ?_ | refine splF ?_ | refine splNot ?_
      | ((first | refine splIn ?_ ?_ | refine splD ?_ ?_ | refine splE ?_ ?_ | refine splNE ?_ ?_) <;> intro hc <;> first | (exfalso; omega) | (exfalso; dsimp only at hc; omega) | skip)
      | refine Exists.intro (α := List Value) [.bool true] ⟨⟨rfl, fun w' hw' => eO w' hw'⟩, ?_⟩
      | (refine And.intro (a := _ + _ ≤ List.length _) (ystS htA _) ?_; rw [ystE htA])
      | (refine And.intro (a := _ + _ ≤ List.length _) (ystS htB _) ?_; rw [ystE htB])
    all_goals first | (exfalso; omega) | skip
    refine loopE (fun y : Nat × Int => [(1, .ptr 0 0), (2, .ptr 1 0), (3, .v (iv D.length)), (4, .ptr 6 0), (5, .v (iv t)), (6, .v (iv y.1))]) (fun y => [(0, .cells [.v (.slice (some ad) D.length c), .v (iv K)] 107), (1, .cells [.v (.slice none 0 0), .v (iv 0), .v (.slice none 0 0), .v (.slice none 0 0)] 160), (2, .own 3 (D.length + 1) 1 ((A.set t y.2).flatMap iF) 3), (4, .own 5 (D.length + 1) 1 ((B.set t 1000000000).flatMap iF) 3), (6, .cells [.v (.slice (some ad) D.length c), .v (iv K), .os 2 3 (D.length + 1), .os 4 5 (D.length + 1)] 160)]) (fun y => t < y.1 ∧ y.1 ≤ D.length + 1 ∧ FrP D K t A y.2 y.1) (fun y => D.length + 1 - y.1) (t + 1, 1000000000) ⟨by omega, by omega, ⟨by show (0 : Int) ≤ 1000000000; decide, by show (1000000000 : Int) ≤ 1000000000; decide⟩, fun s' h1 h2 => by omega, .inl rfl⟩ ⟨rfl, rfl, rfl, rfl, rfl, rfl, trivial⟩ ⟨rfl, rfl, rfl, rfl, rfl, trivial⟩ (fun _ => ⟨rfl, rfl⟩) ?_
    rintro ⟨s, a⟩ ⟨hs1, hs2, hfp⟩
    dsimp only at hs1 hs2 hfp ⊢
    have hab := hfp.b
    have hat2 : a = 1000000000 ∨ true = true ∧ ∃ s, t < s ∧ s ≤ D.length ∧ fdB D K t s = true ∧ a = prO D t s + atI A s := hfp.at'.imp id fun h => ⟨rfl, h⟩
    rcases Nat.lt_or_ge D.length s with hsn | hsn
    · have hkey := key a hab (fun _ s' h1 h2 h3 => hfp.le s' h1 (by omega) h3) hat2
      clear key h127 h126
      repeat'
       conv => whnf
       first
        | refine zA ?_ | refine zB ?_ | refine zC ?_ | refine zD ?_ | refine zE ?_ | refine zF ?_ | refine zG ?_ | refine zH ?_ | refine zJ ?_ | refine zI ?_ | refine splT ?_ | refine splF ?_ | refine splNot ?_
        | ((first | refine splIn ?_ ?_ | refine splD ?_ ?_ | refine splE ?_ ?_ | refine splNE ?_ ?_) <;> intro hc <;> first | (exfalso; omega) | (exfalso; dsimp only at hc; omega) | skip)
        | refine Exists.intro (α := List Value) [iv nd] ⟨⟨rfl, fun w' hw' => eN w' hw'⟩, ?_⟩
        | refine Exists.intro (α := List Value) [iv a] ⟨⟨rfl, yatS (hAt a)⟩, ?_⟩
        | refine Exists.intro (α := List Value) [iv a] ⟨⟨rfl, yatS (hBt a)⟩, ?_⟩
        | refine Exists.intro (α := List Value) [iv b1] ⟨⟨rfl, yatS (hBs a)⟩, ?_⟩
        | (refine And.intro (a := _ + _ ≤ List.length _) (ystS (htB2 _) _) ?_; rw [ystE (htB2 _), List.set_set])
      all_goals first | (exfalso; omega) | exact ⟨(t, A.set t a, B.set t (imin a b1)), ⟨by omega, hkey _ (by rw [if_pos (by assumption)])⟩, by omega, Ent.weak rfl ⟨rfl, rfl, rfl, rfl, rfl, trivial⟩ ⟨rfl, rfl, rfl, rfl, rfl, trivial⟩ fun _ h => h⟩ | exact ⟨(t, A.set t a, B.set t a), ⟨by omega, hkey _ (by rw [if_neg (by assumption)])⟩, by omega, Ent.weak rfl ⟨rfl, rfl, rfl, rfl, rfl, trivial⟩ ⟨rfl, rfl, rfl, rfl, rfl, trivial⟩ fun _ h => h⟩
    · have hf := h126 t s (by omega) hsn
      obtain ⟨bv, hbv⟩ : ∃ b, fdB D K t s = b := ⟨_, rfl⟩
      rw [hbv] at hf
      cases bv with
      | false =>
       have hkey := key a hab (fun _ s' h1 h2 h3 => by
        rcases Nat.lt_or_ge s' s with h4 | h4
        · exact hfp.le s' h1 h4 h3
        · rw [fd_mono hR (by omega) h4 h2 h3] at hbv; cases hbv) hat2
       clear key h127 h126
       repeat'
        conv => whnf
        first
         | refine zA ?_ | refine zB ?_ | refine zC ?_ | refine zD ?_ | refine zE ?_ | refine zF ?_ | refine zG ?_ | refine zH ?_ | refine zJ ?_ | refine zI ?_ | refine splT ?_ | refine splF ?_ | refine splNot ?_
         | ((first | refine splIn ?_ ?_ | refine splD ?_ ?_ | refine splE ?_ ?_ | refine splNE ?_ ?_) <;> intro hc <;> first | (exfalso; omega) | (exfalso; dsimp only at hc; omega) | skip)
         | ((with_reducible show CallEv _ _ 126 _ _ _ _ _); refine callE (k := 126) (fun β w' hbw => hf w' hbw) ?_)
         | refine Exists.intro (α := List Value) [iv nd] ⟨⟨rfl, fun w' hw' => eN w' hw'⟩, ?_⟩
         | refine Exists.intro (α := List Value) [iv a] ⟨⟨rfl, yatS (hAt a)⟩, ?_⟩
         | refine Exists.intro (α := List Value) [iv a] ⟨⟨rfl, yatS (hBt a)⟩, ?_⟩
         | refine Exists.intro (α := List Value) [iv b1] ⟨⟨rfl, yatS (hBs a)⟩, ?_⟩
         | (refine And.intro (a := _ + _ ≤ List.length _) (ystS (htB2 _) _) ?_; rw [ystE (htB2 _), List.set_set])
       all_goals first | (exfalso; omega) | exact ⟨(t, A.set t a, B.set t (imin a b1)), ⟨by omega, hkey _ (by rw [if_pos (by assumption)])⟩, by omega, Ent.weak rfl ⟨rfl, rfl, rfl, rfl, rfl, trivial⟩ ⟨rfl, rfl, rfl, rfl, rfl, trivial⟩ fun _ h => h⟩ | exact ⟨(t, A.set t a, B.set t a), ⟨by omega, hkey _ (by rw [if_neg (by assumption)])⟩, by omega, Ent.weak rfl ⟨rfl, rfl, rfl, rfl, rfl, trivial⟩ ⟨rfl, rfl, rfl, rfl, rfl, trivial⟩ fun _ h => h⟩
      | true =>
       have hp := h127 t s (by omega) htn hsn
       have hpb := pr_bd hR (show t ≤ s by omega) hsn htn
       have hvb := fr_bd hby (show t + 1 ≤ s by omega) hsn
       have hnx := hfp.next ⟨hs1, hsn⟩ hbv (by omega)
       have hAs : (A.set t a)[s]? = some (atI A s) := by rw [List.getElem?_set_ne (by omega)]; exact atI_get (by omega)
       clear key h127 h126 hfp hat2
       generalize prO D t s = p at *
       generalize atI A s = v at *
       repeat'
        conv => whnf
        first
         | refine zA ?_ | refine zB ?_ | refine zC ?_ | refine zD ?_ | refine zE ?_ | refine zF ?_ | refine zG ?_ | refine zH ?_ | refine zJ ?_ | refine zI ?_ | refine splT ?_ | refine splF ?_ | refine splNot ?_
         | ((first | refine splIn ?_ ?_ | refine splD ?_ ?_ | refine splE ?_ ?_ | refine splNE ?_ ?_) <;> intro hc <;> first | (exfalso; omega) | (exfalso; dsimp only at hc; omega) | skip)
         | ((with_reducible show CallEv _ _ 126 _ _ _ _ _); refine callE (k := 126) (fun β w' hbw => hf w' hbw) ?_)
         | ((with_reducible show CallEv _ _ 127 _ _ _ _ _); refine callE (k := 127) (fun β w' hbw => hp w' hbw) ?_)
         | refine Exists.intro (α := List Value) [iv a] ⟨⟨rfl, yatS (hAt a)⟩, ?_⟩
         | refine Exists.intro (α := List Value) [iv v] ⟨⟨rfl, yatS hAs⟩, ?_⟩
         | (refine And.intro (a := _ + _ ≤ List.length _) (ystS (htA2 a) _) ?_; rw [ystE (htA2 a), List.set_set])
       all_goals first | (exfalso; omega) | exact ⟨(s + 1, imin a (p + v)), ⟨by omega, by omega, hnx⟩, by omega, Ent.weak rfl ⟨rfl, rfl, rfl, rfl, rfl, rfl, trivial⟩ ⟨rfl, rfl, rfl, rfl, rfl, trivial⟩ fun _ h => h⟩
end Go.Proofs.Ythfabodamhdhaaa
namespace Go.Proofs.Ythfabodamhdhaaa
open Go Tx Go.RowKit
set_option linter.unusedSimpArgs false
set_option linter.unusedVariables false
def fnd (p : Nat → Bool) : Nat → Nat → Nat
 | 0, i => i
 | f + 1, i => if p i = true then i else fnd p f (i + 1)
theorem fnd_spec {p : Nat → Bool} : ∀ (f i j : Nat), i ≤ j → j < i + f → p j = true → p (fnd p f i) = true ∧ i ≤ fnd p f i ∧ fnd p f i ≤ j ∧ ∀ k, i ≤ k → k < fnd p f i → p k = false
 | 0, i, j, h1, h2, h3 => by omega
 | f + 1, i, j, h1, h2, h3 => by
  unfold fnd
  by_cases hp : p i = true
  · rw [if_pos hp]
    exact ⟨hp, Nat.le_refl _, h1, fun k h4 h5 => by omega⟩
  · rw [if_neg hp]
    have hij : i ≠ j := fun e => by subst e; exact hp h3
    obtain ⟨g1, g2, g3, g4⟩ := fnd_spec f (i + 1) j (by omega) (by omega) h3
    refine ⟨g1, by omega, g3, fun k h4 h5 => ?_⟩
    by_cases e : k = i
    · subst e; rwa [Bool.not_eq_true] at hp
    · exact g4 k (by omega) h5
def nxO (D : List Mk) (A : List Int) (t : Nat) : Nat := fnd (fun s => decide (prO D t s + atI A s = atI A t)) (D.length - t) (t + 1)
def goO (D : List Mk) (K : Nat) (A : List Int) : Nat → Nat → List Nat
 | 0, _ => []
 | f + 1, t => if fdB D K t D.length = true ∧ prO D t D.length = atI A t then [] else if nxO D A t = D.length then [] else nxO D A t :: goO D K A f (nxO D A t)
def t0O (D : List Mk) (A B : List Int) : Nat := fnd (fun i => decide (atI A i = atI B 0)) D.length 0
def plO (D : List Mk) (K : Nat) (A B : List Int) : List Nat := t0O D A B :: goO D K A D.length (t0O D A B)
def Pc (D : List Mk) (K : Nat) (A : List Int) : Nat → List Nat → Prop
 | t, [] => fdB D K t D.length = true ∧ prO D t D.length = atI A t
 | t, s :: L => (t < s ∧ s < D.length) ∧ (mkA D s).op = true ∧ fdB D K t s = true ∧ atI A t = prO D t s + atI A s ∧ Pc D K A s L
theorem nx_ok {D : List Mk} {K : Nat} {A B : List Int} (hR : RoadOk D K) (h : ByOk D K 0 A B) {t : Nat} (ht : t < D.length) (hA : atI A t < 1000000000) :
 (t < nxO D A t ∧ nxO D A t ≤ D.length) ∧ fdB D K t (nxO D A t) = true ∧ atI A t = prO D t (nxO D A t) + atI A (nxO D A t) ∧ atI A (nxO D A t) < 1000000000 ∧ (∀ s, t < s → s < nxO D A t → prO D t s + atI A s ≠ atI A t) := by
 rcases (h.f t (Nat.zero_le _) ht).at' with h1 | ⟨ho, s, h1, h2, h3, h4⟩
 · omega
 · obtain ⟨g1, g2, g3, g4⟩ := fnd_spec (p := fun s => decide (prO D t s + atI A s = atI A t)) (D.length - t) (t + 1) s (by omega) (by omega) (by simpa using h4.symm)
   have e : nxO D A t = fnd (fun s => decide (prO D t s + atI A s = atI A t)) (D.length - t) (t + 1) := rfl
   rw [← e] at g1 g2 g3 g4
   simp only [decide_eq_true_eq] at g1
   have hp := pr_bd hR (show t ≤ nxO D A t by omega) (by omega) ht
   refine ⟨by omega, fd_mono hR (by omega) g3 h2 h3, g1.symm, by omega, fun s' h5 h6 => ?_⟩
   have := g4 s' (by omega) h6
   simpa using this
theorem open_of {D : List Mk} {K : Nat} {A B : List Int} (h : ByOk D K 0 A B) {t : Nat} (ht : t < D.length) (hA : atI A t < 1000000000) : (mkA D t).op = true := by
 rcases (h.f t (Nat.zero_le _) ht).at' with h1 | ⟨ho, _⟩
 · omega
 · exact ho
theorem go_ok {D : List Mk} {K : Nat} {A B : List Int} (hR : RoadOk D K) (h : ByOk D K 0 A B) : ∀ (f t : Nat), t < D.length → D.length - t ≤ f → atI A t < 1000000000 → Pc D K A t (goO D K A f t)
 | 0, t, h1, h2, h3 => by omega
 | f + 1, t, h1, h2, h3 => by
  obtain ⟨n1, n2, n3, n4, n5⟩ := nx_ok hR h h1 h3
  unfold goO
  by_cases hc : fdB D K t D.length = true ∧ prO D t D.length = atI A t
  · rw [if_pos hc]; exact hc
  · rw [if_neg hc]
    by_cases hn : nxO D A t = D.length
    · rw [if_pos hn]
      rw [hn, h.z.1] at n3
      rw [hn] at n2
      exact ⟨n2, by omega⟩
    · rw [if_neg hn]
      exact ⟨⟨n1.1, by omega⟩, open_of h (by omega) n4, n2, n3, go_ok hR h f _ (by omega) (by omega) n4⟩
theorem tb_chain {D : List Mk} {K : Nat} {A B : List Int} (hR : RoadOk D K) (h : ByOk D K 0 A B) : ∀ k t, D.length - t = k → t ≤ D.length → (∃ i, t ≤ i ∧ i < D.length ∧ atI A i = atI B t ∧ pS D i = pS D t) ∨ (atI B t = 0 ∧ pS D D.length = pS D t)
 | 0, t, hk, ht => by
  obtain rfl : t = D.length := by omega
  exact .inr ⟨h.z.2, rfl⟩
 | k + 1, t, hk, ht => by
  have h1 := h.t t (Nat.zero_le _) (by omega)
  unfold BtOk at h1
  by_cases hn : (mkA D t).nd = 0
  · rw [if_pos hn] at h1
    have e := imin_eq (atI A t) (atI B (t + 1))
    rcases (by omega : atI B t = atI A t ∨ atI B t = atI B (t + 1)) with h2 | h2
    · exact .inl ⟨t, Nat.le_refl _, by omega, h2.symm, rfl⟩
    · obtain ⟨m, hm⟩ : ∃ m, D[t]? = some m := ⟨_, List.getElem?_eq_getElem (by omega)⟩
      have hs := pS_succ hm
      have e2 : mkA D t = m := by unfold mkA; rw [hm]; rfl
      rw [e2] at hn
      rw [h2]
      rcases tb_chain hR h k (t + 1) (by omega) (by omega) with ⟨i, g1, g2, g3, g4⟩ | ⟨g1, g2⟩
      · exact .inl ⟨i, by omega, g2, g3, by omega⟩
      · exact .inr ⟨g1, by omega⟩
  · rw [if_neg hn] at h1
    exact .inl ⟨t, Nat.le_refl _, by omega, h1.symm, rfl⟩
theorem t0_ok {D : List Mk} {K : Nat} {A B : List Int} (hR : RoadOk D K) (h : ByOk D K 0 A B) (hB : atI B 0 < 1000000000) (hn : ¬ (atI B 0 = 0 ∧ pS D D.length = 0)) :
 t0O D A B < D.length ∧ atI A (t0O D A B) = atI B 0 ∧ pS D (t0O D A B) = 0 ∧ ∀ i, i < t0O D A B → atI A i ≠ atI B 0 := by
 rcases tb_chain hR h D.length 0 (by omega) (Nat.zero_le _) with ⟨i, h1, h2, h3, h4⟩ | h1
 · obtain ⟨g1, g2, g3, g4⟩ := fnd_spec (p := fun i => decide (atI A i = atI B 0)) D.length 0 i h1 (by omega) (by simpa using h3)
   have e : t0O D A B = fnd (fun i => decide (atI A i = atI B 0)) D.length 0 := rfl
   rw [← e] at g1 g2 g3 g4
   have h5 := pS_le hR (show t0O D A B ≤ i by omega) (by omega)
   have h6 := pS_le hR (Nat.zero_le (t0O D A B)) (by omega)
   have h7 : pS D 0 = 0 := rfl
   refine ⟨by omega, by simpa using g1, by omega, fun i hi => ?_⟩
   have := g4 i (Nat.zero_le _) hi
   simpa using this
 · exact absurd h1 hn
set_option maxHeartbeats 4000000 in
set_option maxRecDepth 100000 in
theorem plan_nil (D : List Mk) (K : Nat) (o : Option Addr) (c : Nat) (A B : List Int) (ao bo : Option Addr) (ac bc : Nat) (w : World) (h : RdR o c D w) (hR : RoadOk D K) (hby : ByOk D K 0 A B) (hA : Rd 1 iF (.slice ao (D.length + 1) ac) A w) (hB : Rd 1 iF (.slice bo (D.length + 1) bc) B w) (hn : atI B 0 = 0 ∧ pS D D.length = 0) :
 Calls Try.prog 88 #[.agg #[.slice o D.length c, iv K, .slice ao (D.length + 1) ac, .slice bo (D.length + 1) bc]] w fun e w' => e = .returned (.slice none 0 0) ∧ Below w.heap.size w w' := by
 have hl := hR.l
 have hk := hR.k
 obtain ⟨_, ad, rfl, _⟩ := h.r.ptr (by omega)
 obtain ⟨hlA, hlB⟩ := hby.l
 rw [← hlA] at hA
 rw [← hlB] at hB
 obtain ⟨_, aa, rfl, _⟩ := hA.ptr (by omega)
 obtain ⟨_, ab, rfl, _⟩ := hB.ptr (by omega)
 have eA := fun (i : Nat) (hi : i < D.length + 1) (w' : World) (hw' : Below w.heap.size w w') => rd_ati (hA.below (w' := w') hw') (atI_get (show i < A.length by omega))
 have eB := fun (w' : World) (hw' : Below w.heap.size w w') => rd_ati (hB.below (w' := w') hw') (atI_get (show 0 < B.length by omega))
 have h128 := fun w' hb => need_ok D K (some ad) c 0 D.length w' (h.below hb) hR (Nat.zero_le _) (Nat.le_refl _)
 have e0 : pS D D.length - pS D 0 = pS D D.length := by show _ - 0 = _; omega
 rw [e0] at h128
 obtain ⟨hn1, hn2⟩ := hn
 rw [hn1] at eB
 rw [hn2] at h128
 refine calls_val env mixed Try.func88 has88 Try.ntmps88 [.agg #[.slice (some ad) D.length c, iv K, .slice (some aa) (D.length + 1) ac, .slice (some ab) (D.length + 1) bc]] (by simp) ?_
 repeat'
  conv => whnf
  first
   | refine zA ?_ | refine zB ?_ | refine zC ?_ | refine zD ?_ | refine zE ?_ | refine zF ?_ | refine zG ?_ | refine zH ?_ | refine zJ ?_ | refine zI ?_ | refine splT ?_ | refine splF ?_ | refine splNot ?_
   | ((first | refine splIn ?_ ?_ | refine splD ?_ ?_ | refine splE ?_ ?_ | refine splNE ?_ ?_) <;> intro hc <;> first | (exfalso; omega) | (exfalso; dsimp only at hc; omega) | skip)
   | refine Exists.intro (α := List Value) [iv 0] ⟨⟨rfl, fun w' hw' => eB w' hw'⟩, ?_⟩
   | ((with_reducible show CallEv _ _ 128 _ _ _ _ _); refine callE (k := 128) (fun β w' hbw => h128 w' hbw) ?_)
 all_goals first | (exfalso; omega) | exact ⟨fun β => rfl, fun w' h => h⟩
set_option maxHeartbeats 4000000 in
set_option maxRecDepth 100000 in
theorem plan_own (D : List Mk) (K : Nat) (o : Option Addr) (c : Nat) (A B : List Int) (ao bo : Option Addr) (ac bc : Nat) (w : World) (h : RdR o c D w) (hR : RoadOk D K) (hby : ByOk D K 0 A B) (hA : Rd 1 iF (.slice ao (D.length + 1) ac) A w) (hB : Rd 1 iF (.slice bo (D.length + 1) bc) B w) (hB0 : atI B 0 < 1000000000) (hn : ¬ (atI B 0 = 0 ∧ pS D D.length = 0)) :
 Calls Try.prog 88 #[.agg #[.slice o D.length c, iv K, .slice ao (D.length + 1) ac, .slice bo (D.length + 1) bc]] w fun e w' => ∃ b d, e = .returned (.slice (some ⟨b, 0, none⟩) (plO D K A B).length d) ∧ w.heap.size ≤ b ∧ Below w.heap.size w w' ∧ w'.ownsRow 0 3 1 (.slice (some ⟨b, 0, none⟩) (plO D K A B).length d) (plO D K A B).length ((plO D K A B).flatMap nF) := by
 have hl := hR.l
 have hk := hR.k
 obtain ⟨_, ad, rfl, _⟩ := h.r.ptr (by omega)
 obtain ⟨hlA, hlB⟩ := hby.l
 rw [← hlA] at hA
 rw [← hlB] at hB
 obtain ⟨_, aa, rfl, _⟩ := hA.ptr (by omega)
 obtain ⟨_, ab, rfl, _⟩ := hB.ptr (by omega)
 have eA := fun (i : Nat) (hi : i < D.length + 1) (w' : World) (hw' : Below w.heap.size w w') => rd_ati (hA.below (w' := w') hw') (atI_get (show i < A.length by omega))
 have eB := fun (w' : World) (hw' : Below w.heap.size w w') => rd_ati (hB.below (w' := w') hw') (atI_get (show 0 < B.length by omega))
 have h128 := fun w' hb => need_ok D K (some ad) c 0 D.length w' (h.below hb) hR (Nat.zero_le _) (Nat.le_refl _)
 have e0 : pS D D.length - pS D 0 = pS D D.length := by show _ - 0 = _; omega
 rw [e0] at h128
 obtain ⟨g1, g2, g3, g4⟩ := t0_ok hR hby hB0 hn
 have h126 := fun a b h1 h2 w' hb => feeds_ok D K (some ad) c a b w' (h.below hb) hR h1 h2
 have h127 := fun a b h1 h2 h3 w' hb => price_ok D K (some ad) c a b w' (h.below hb) hR h1 h2 h3
 have hpl : plO D K A B = [t0O D A B] ++ goO D K A D.length (t0O D A B) := rfl
 generalize hL : plO D K A B = L at *
 generalize hT : t0O D A B = T at *
 have hBb := tb_bd hby D.length 0 (by omega) (Nat.zero_le _) (Nat.zero_le _)
 have hpn := pS_le hR (Nat.zero_le D.length) (Nat.le_refl _)
 have hp0 : pS D 0 = 0 := rfl
 have hAb := fun i hi => fr_bd hby (Nat.zero_le i) hi
 refine calls_fam2 env mixed Try.func88 has88 Try.ntmps88 [.agg #[.slice (some ad) D.length c, iv K, .slice (some aa) (D.length + 1) ac, .slice (some ab) (D.length + 1) bc]] (by simp) ?_
 generalize hb0 : atI B 0 = b0 at *
 generalize hpn2 : pS D D.length = pn at *
 repeat'
  conv => whnf
  first
   | refine zA ?_ | refine zB ?_ | refine zC ?_ | refine zD ?_ | refine zE ?_ | refine zF ?_ | refine zG ?_ | refine zH ?_ | refine zJ ?_ | refine zI ?_ | refine splT ?_ | refine splF ?_ | refine splNot ?_
   | ((first | refine splIn ?_ ?_ | refine splD ?_ ?_ | refine splE ?_ ?_ | refine splNE ?_ ?_) <;> intro hc <;> first | (exfalso; omega) | (exfalso; dsimp only at hc; omega) | skip)
   | refine Exists.intro (α := List Value) [iv b0] ⟨⟨rfl, fun w' hw' => eB w' hw'⟩, ?_⟩
   | ((with_reducible show CallEv _ _ 128 _ _ _ _ _); refine callE (k := 128) (fun β w' hbw => h128 w' hbw) ?_)
 all_goals first | (exfalso; omega) | skip
 all_goals
  refine loopE (fun i : Nat => [(1, .ptr 0 0), (2, .v (.slice none 0 0)), (3, .v (iv D.length)), (4, .v (iv i))]) (fun _ => [(0, .cells [.v (.slice (some ad) D.length c), .v (iv K), .v (.slice (some aa) (D.length + 1) ac), .v (.slice (some ab) (D.length + 1) bc)] 160)]) (fun i => i ≤ T) (fun i => T - i) 0 (Nat.zero_le _) ⟨rfl, rfl, rfl, rfl, trivial⟩ ⟨rfl, trivial⟩ (fun _ => ⟨rfl, rfl⟩) ?_
  intro i hi
  rcases Nat.lt_or_ge i T with hil | hil
  · have hne := g4 i hil
    have e1 := eA i (by omega)
    generalize atI A i = ai at *
    repeat'
     conv => whnf
     first
      | refine zA ?_ | refine zB ?_ | refine zC ?_ | refine zD ?_ | refine zE ?_ | refine zF ?_ | refine zG ?_ | refine zH ?_ | refine zJ ?_ | refine zI ?_ | refine splT ?_ | refine splF ?_ | refine splNot ?_
      | ((first | refine splIn ?_ ?_ | refine splD ?_ ?_ | refine splE ?_ ?_ | refine splNE ?_ ?_) <;> intro hc <;> first | (exfalso; omega) | (exfalso; dsimp only at hc; omega) | skip)
      | refine Exists.intro (α := List Value) [iv ai] ⟨⟨rfl, fun w' hw' => e1 w' hw'⟩, ?_⟩
      | refine Exists.intro (α := List Value) [iv b0] ⟨⟨rfl, fun w' hw' => eB w' hw'⟩, ?_⟩
    all_goals first | (exfalso; omega) | exact ⟨i + 1, by omega, by omega, Ent.weak rfl ⟨rfl, rfl, rfl, rfl, trivial⟩ ⟨rfl, trivial⟩ fun _ h => h⟩
  · obtain rfl : i = T := by omega
    have e1 := eA i (by omega)
    rw [g2] at e1
    clear h128
    repeat'
     conv => whnf
     first
      | refine zA ?_ | refine zB ?_ | refine zC ?_ | refine zD ?_ | refine zE ?_ | refine zF ?_ | refine zG ?_ | refine zH ?_ | refine zJ ?_ | refine zI ?_ | refine splT ?_ | refine splF ?_ | refine splNot ?_
      | ((first | refine splIn ?_ ?_ | refine splD ?_ ?_ | refine splE ?_ ?_ | refine splNE ?_ ?_) <;> intro hc <;> first | (exfalso; omega) | (exfalso; dsimp only at hc; omega) | skip)
      | refine Exists.intro (α := List Value) [iv b0] ⟨⟨rfl, fun w' hw' => e1 w' hw'⟩, ?_⟩
      | refine Exists.intro (α := List Value) [iv b0] ⟨⟨rfl, fun w' hw' => eB w' hw'⟩, ?_⟩
    all_goals first | (exfalso; omega) | skip
    refine loopN 4 (fun x : List Nat × Nat × Nat => [(1, .ptr 0 0), (2, .os 2 3 (x.1.length + 1)), (3, .v (iv D.length)), (4, .v (iv x.2.1))]) (fun x => [(0, .cells [.v (.slice (some ad) D.length c), .v (iv K), .v (.slice (some aa) (D.length + 1) ac), .v (.slice (some ab) (D.length + 1) bc)] 160), (2, .own 3 (x.1.length + 1) 1 ((x.1 ++ [x.2.1]).flatMap nF) 3)]) (fun x => (x.2.1 < D.length ∧ D.length - x.2.1 ≤ x.2.2) ∧ atI A x.2.1 < 1000000000 ∧ L = x.1 ++ [x.2.1] ++ goO D K A x.2.2 x.2.1 ∧ x.1.length ≤ x.2.1) (fun x => D.length - x.2.1) ([], i, D.length) ⟨⟨g1, Nat.sub_le _ _⟩, by show atI A i < 1000000000; omega, hpl, Nat.zero_le _⟩ ⟨rfl, rfl, rfl, rfl, trivial⟩ ⟨rfl, rfl, trivial⟩ (fun _ _ => ⟨rfl, rfl⟩) ?_
    rintro ⟨Q, t, f⟩ ⟨⟨ht1, ht2⟩, hAt, hLQ, hQt⟩
    dsimp only at ht1 ht2 hAt hLQ hQt ⊢
    obtain ⟨n1, n2, n3, n4, n5⟩ := nx_ok hR hby ht1 hAt
    obtain ⟨f, rfl⟩ : ∃ f', f = f' + 1 := ⟨f - 1, by omega⟩
    have hgo : goO D K A (f + 1) t = if fdB D K t D.length = true ∧ prO D t D.length = atI A t then [] else if nxO D A t = D.length then [] else nxO D A t :: goO D K A f (nxO D A t) := rfl
    have f1 := h126 t D.length (by omega) (Nat.le_refl _)
    have p1 := h127 t D.length (by omega) ht1 (Nat.le_refl _)
    have pb1 := pr_bd hR (show t ≤ D.length by omega) (Nat.le_refl _) ht1
    have et := eA t (by omega)
    by_cases hc : fdB D K t D.length = true ∧ prO D t D.length = atI A t
    · have hL2 : L = Q ++ [t] := by rw [hLQ, hgo, if_pos hc, List.append_nil]
      rw [hc.1] at f1
      rw [hc.2] at p1
      clear h126 h127 hgo hLQ n5 n3
      generalize atI A t = at_ at *
      repeat'
       conv => whnf
       first
        | refine zA ?_ | refine zB ?_ | refine zC ?_ | refine zD ?_ | refine zE ?_ | refine zF ?_ | refine zG ?_ | refine zH ?_ | refine zJ ?_ | refine zI ?_ | refine splT ?_ | refine splF ?_ | refine splNot ?_
        | ((first | refine splIn ?_ ?_ | refine splD ?_ ?_ | refine splE ?_ ?_ | refine splNE ?_ ?_) <;> intro hc <;> first | (exfalso; omega) | (exfalso; dsimp only at hc; omega) | skip)
        | ((with_reducible show CallEv _ _ 126 _ _ _ _ _); refine callE (k := 126) (fun β w' hbw => f1 w' hbw) ?_)
        | ((with_reducible show CallEv _ _ 127 _ _ _ _ _); refine callE (k := 127) (fun β w' hbw => p1 w' hbw) ?_)
        | refine Exists.intro (α := List Value) [iv at_] ⟨⟨rfl, fun w' hw' => et w' hw'⟩, ?_⟩
      all_goals first | (exfalso; omega) | exact ⟨fun w' h => h, fun β w' hB hB2 hblk => ⟨β 2, β 3, by rw [hL2, List.length_append]; rfl, (hblk 2 _ rfl rfl).1, hB2, by rw [hL2, List.length_append]; exact (hblk 2 _ rfl rfl).2⟩⟩
    · rw [if_neg hc] at hgo
      have hp1 : fdB D K t D.length = true → prO D t D.length ≠ atI A t := fun h1 h2 => hc ⟨h1, h2⟩
      clear hc
      have hin : ∀ s, t < s → s ≤ D.length → 0 ≤ prO D t s + atI A s ∧ prO D t s + atI A s ≤ 2000000000 ∧ 0 ≤ prO D t s ∧ prO D t s ≤ 300100000 := fun s h1 h2 => by
       have := pr_bd hR (show t ≤ s by omega) h2 ht1
       have := hAb s h2
       omega
      generalize hat : atI A t = at_ at *
      generalize prO D t D.length = q1 at *
      generalize fdB D K t D.length = b1 at *
      generalize hnx : nxO D A t = nx at *
      cases b1
      all_goals
       simp only [Bool.false_eq_true, false_implies, true_implies] at hp1
       repeat'
        conv => whnf
        first
         | refine zA ?_ | refine zB ?_ | refine zC ?_ | refine zD ?_ | refine zE ?_ | refine zF ?_ | refine zG ?_ | refine zH ?_ | refine zJ ?_ | refine zI ?_ | refine splT ?_ | refine splF ?_ | refine splNot ?_
         | ((first | refine splIn ?_ ?_ | refine splD ?_ ?_ | refine splE ?_ ?_ | refine splNE ?_ ?_) <;> intro hc <;> first | (exfalso; omega) | (exfalso; dsimp only at hc; omega) | skip)
         | ((with_reducible show CallEv _ _ 126 _ _ _ _ _); refine callE (k := 126) (fun β w' hbw => f1 w' hbw) ?_)
         | ((with_reducible show CallEv _ _ 127 _ _ _ _ _); refine callE (k := 127) (fun β w' hbw => p1 w' hbw) ?_)
         | refine Exists.intro (α := List Value) [iv at_] ⟨⟨rfl, fun w' hw' => et w' hw'⟩, ?_⟩
       all_goals first | (exfalso; omega) | skip
       refine loopE (fun s : Nat => [(1, .ptr 0 0), (2, .os 2 3 (Q.length + 1)), (3, .v (iv D.length)), (4, .v (iv t)), (5, .v (iv s))]) (fun _ => [(0, .cells [.v (.slice (some ad) D.length c), .v (iv K), .v (.slice (some aa) (D.length + 1) ac), .v (.slice (some ab) (D.length + 1) bc)] 160), (2, .own 3 (Q.length + 1) 1 ((Q ++ [t]).flatMap nF) 3)]) (fun s => t < s ∧ s ≤ nx) (fun s => nx - s) (t + 1) ⟨by omega, by omega⟩ ⟨rfl, rfl, rfl, rfl, rfl, trivial⟩ ⟨rfl, rfl, trivial⟩ (fun _ => ⟨rfl, rfl⟩) ?_
       intro s ⟨hs1, hs2⟩
       have hsb := hin s hs1 (by omega)
       have es := eA s (by omega)
       have ps := h127 t s (by omega) ht1 (by omega)
       rcases Nat.lt_or_ge s nx with hsl | hsl
       · have hne := n5 s hs1 hsl
         generalize prO D t s = q at *
         generalize atI A s = vs at *
         clear f1 p1
         repeat'
          conv => whnf
          first
           | refine zA ?_ | refine zB ?_ | refine zC ?_ | refine zD ?_ | refine zE ?_ | refine zF ?_ | refine zG ?_ | refine zH ?_ | refine zJ ?_ | refine zI ?_ | refine splT ?_ | refine splF ?_ | refine splNot ?_
           | ((first | refine splIn ?_ ?_ | refine splD ?_ ?_ | refine splE ?_ ?_ | refine splNE ?_ ?_) <;> intro hc <;> first | (exfalso; omega) | (exfalso; dsimp only at hc; omega) | skip)
           | ((with_reducible show CallEv _ _ 127 _ _ _ _ _); refine callE (k := 127) (fun β w' hbw => ps w' hbw) ?_)
           | refine Exists.intro (α := List Value) [iv vs] ⟨⟨rfl, fun w' hw' => es w' hw'⟩, ?_⟩
           | refine Exists.intro (α := List Value) [iv at_] ⟨⟨rfl, fun w' hw' => et w' hw'⟩, ?_⟩
         all_goals first | (exfalso; omega) | exact ⟨s + 1, by omega, by omega, Ent.weak rfl ⟨rfl, rfl, rfl, rfl, rfl, trivial⟩ ⟨rfl, rfl, trivial⟩ fun _ h => h⟩
       · obtain rfl : s = nx := by omega
         by_cases hsn : s = D.length
         · have hL2 : L = Q ++ [t] := by rw [hLQ, hgo, if_pos hsn, List.append_nil]
           generalize prO D t s = q at *
           generalize atI A s = vs at *
           clear f1 p1
           repeat'
            conv => whnf
            first
             | refine zA ?_ | refine zB ?_ | refine zC ?_ | refine zD ?_ | refine zE ?_ | refine zF ?_ | refine zG ?_ | refine zH ?_ | refine zJ ?_ | refine zI ?_ | refine splT ?_ | refine splF ?_ | refine splNot ?_
             | ((first | refine splIn ?_ ?_ | refine splD ?_ ?_ | refine splE ?_ ?_ | refine splNE ?_ ?_) <;> intro hc <;> first | (exfalso; omega) | (exfalso; dsimp only at hc; omega) | skip)
             | ((with_reducible show CallEv _ _ 127 _ _ _ _ _); refine callE (k := 127) (fun β w' hbw => ps w' hbw) ?_)
             | refine Exists.intro (α := List Value) [iv vs] ⟨⟨rfl, fun w' hw' => es w' hw'⟩, ?_⟩
             | refine Exists.intro (α := List Value) [iv at_] ⟨⟨rfl, fun w' hw' => et w' hw'⟩, ?_⟩
           all_goals first | (exfalso; omega) | exact ⟨fun w' h => h, fun β w' hB hB2 hblk => ⟨β 2, β 3, by rw [hL2, List.length_append]; rfl, (hblk 2 _ rfl rfl).1, hB2, by rw [hL2, List.length_append]; exact (hblk 2 _ rfl rfl).2⟩⟩
         · have hL3 : L = (Q ++ [t]) ++ [s] ++ goO D K A f s := by rw [hLQ, hgo, if_neg hsn]; simp
           have hvs : atI A s < 1000000000 := n4
           generalize prO D t s = q at *
           generalize hvv : atI A s = vs at *
           clear f1 p1
           have e1 : (Q ++ [t]).length + 1 = Q.length + 1 + 1 := by simp
           have e2 : ((Q ++ [t]) ++ [s]).flatMap nF = (Q ++ [t]).flatMap nF ++ [iv s] := by rw [List.flatMap_append (xs := Q ++ [t])]; rfl
           repeat'
            conv => whnf
            first
             | refine zA ?_ | refine zB ?_ | refine zC ?_ | refine zD ?_ | refine zE ?_ | refine zF ?_ | refine zG ?_ | refine zH ?_ | refine zJ ?_ | refine zI ?_ | refine splT ?_ | refine splF ?_ | refine splNot ?_
             | ((first | refine splIn ?_ ?_ | refine splD ?_ ?_ | refine splE ?_ ?_ | refine splNE ?_ ?_) <;> intro hc <;> first | (exfalso; omega) | (exfalso; dsimp only at hc; omega) | skip)
             | ((with_reducible show CallEv _ _ 127 _ _ _ _ _); refine callE (k := 127) (fun β w' hbw => ps w' hbw) ?_)
             | refine Exists.intro (α := List Value) [iv vs] ⟨⟨rfl, fun w' hw' => es w' hw'⟩, ?_⟩
             | refine Exists.intro (α := List Value) [iv at_] ⟨⟨rfl, fun w' hw' => et w' hw'⟩, ?_⟩
           all_goals first | (exfalso; omega) | exact ⟨(Q ++ [t], s, f), ⟨⟨by show s < D.length; omega, by show D.length - s ≤ f; omega⟩, by show atI A s < 1000000000; omega, hL3, by show (Q ++ [t]).length ≤ s; rw [List.length_append, List.length_singleton]; omega⟩, by show D.length - s < D.length - t; omega, Ent.ren (rho [(2, 5), (3, 6)]) rfl rfl ⟨rfl, by dsimp only; rw [e1]; rfl, rfl, rfl, trivial⟩ ⟨rfl, by dsimp only; rw [e1, e2]; rfl, trivial⟩ fun _ h => h⟩
end Go.Proofs.Ythfabodamhdhaaa
namespace Go.Proofs.Ythfabodamhdhaaa
open Go Tx Go.RowKit
set_option linter.unusedSimpArgs false
set_option linter.unusedVariables false
def PlanOk (D : List Mk) (K : Nat) (A B : List Int) (L : List Nat) : Prop := (L = [] ∧ atI B 0 = 0 ∧ pS D D.length = 0) ∨ ∃ t R, L = t :: R ∧ t < D.length ∧ (mkA D t).op = true ∧ atI A t = atI B 0 ∧ pS D t = 0 ∧ Pc D K A t R
structure BuyR where
 A : List Int
 B : List Int
 L : List Nat
 po : Option Addr
 pc : Nat
 to : Option Addr
 tn : Nat
 tc : Nat
 cost : Int
 er : Int
def BuyR.Ok (y : BuyR) (D : List Mk) (K : Nat) : Prop := (ByOk D K 0 y.A y.B ∧ (y.L ≠ [] → ∃ a, y.po = some a)) ∧ ((y.er = 7 ∧ 1000000000 ≤ atI y.B 0 ∧ y.cost = 0 ∧ y.L = [] ∧ y.tn = 0) ∨ (y.er = 0 ∧ atI y.B 0 < 1000000000 ∧ y.cost = atI y.B 0 ∧ PlanOk D K y.A y.B y.L ∧ y.tn = D.length + 1))
abbrev BuyR.v (y : BuyR) : Value := .tuple #[.slice y.po y.L.length y.pc, iv y.cost, .slice y.to y.tn y.tc, iv y.er]
def BuyR.In (y : BuyR) (w : World) : Prop := y.er = 0 → Rd 1 nF (.slice y.po y.L.length y.pc) y.L w ∧ Rd 1 iF (.slice y.to y.tn y.tc) y.B w
theorem st_st {n m : Nat} {p : World → Prop} {w : World} (h : St m p w) (hm : n ≤ m) : St m (St n p) w := fun w2 k => (h.keep k).mono hm
theorem plan_ok2 {D : List Mk} {K : Nat} {A B : List Int} (hR : RoadOk D K) (h : ByOk D K 0 A B) (hB : atI B 0 < 1000000000) (hn : ¬ (atI B 0 = 0 ∧ pS D D.length = 0)) : PlanOk D K A B (plO D K A B) := by
 obtain ⟨g1, g2, g3, g4⟩ := t0_ok hR h hB hn
 exact .inr ⟨t0O D A B, goO D K A D.length (t0O D A B), rfl, g1, open_of h g1 (by omega), g2, g3, go_ok hR h _ _ g1 (Nat.sub_le _ _) (by omega)⟩
abbrev ByT (D : List Mk) (K : Nat) := {y : (List Int × List Int) × (Addr × Nat) × (Addr × Nat) // ByOk D K 0 y.1.1 y.1.2}
def ByIn (D : List Mk) {K : Nat} (y : ByT D K) (w2 : World) : Prop := Rd 1 iF (.slice (some y.1.2.1.1) (D.length + 1) y.1.2.1.2) y.1.1.1 w2 ∧ Rd 1 iF (.slice (some y.1.2.2.1) (D.length + 1) y.1.2.2.2) y.1.1.2 w2
set_option maxHeartbeats 4000000 in
set_option maxRecDepth 100000 in
theorem Buy_ok (D : List Mk) (K : Nat) (o : Option Addr) (c : Nat) (w : World) (h : RdR o c D w) (hR : RoadOk D K) :
 Calls Try.prog 54 #[rdV o D.length c K] w fun e w' => ∃ y : {y : BuyR // y.Ok D K}, e = .returned y.1.v ∧ Below w.heap.size w w' ∧ St w.heap.size y.1.In w' := by
 have h86 := fun w' hb => rvalid_ok D K o c w' (h.below hb) hR
 have hl := hR.l
 have h87 : ∀ w' (hb : Below w.heap.size w w'), Calls Try.prog 87 #[rdV o D.length c K] w' fun e w2 => ∃ y : ByT D K, e = .returned (.agg #[.slice o D.length c, iv K, .slice (some y.1.2.1.1) (D.length + 1) y.1.2.1.2, .slice (some y.1.2.2.1) (D.length + 1) y.1.2.2.2]) ∧ Below w'.heap.size w' w2 ∧ St w'.heap.size (fun w3 => St w.heap.size (ByIn D y) w3) w2 := fun w' hb =>
  (buy_ok D K o c w' (h.below hb) hR).mono fun e w2 ⟨y, g1, g2, g3⟩ => ⟨y, g1, g2, st_st g3 hb.size⟩
 refine calls_fam env mixed Try.func54 has54 Try.ntmps54 [.agg #[.slice o D.length c, iv K]] (by simp) ?_
 repeat'
  conv => whnf
  first
   | refine zA ?_ | refine zB ?_ | refine zC ?_ | refine zD ?_ | refine zE ?_ | refine zF ?_ | refine zG ?_ | refine zH ?_ | refine zJ ?_ | refine zI ?_ | refine splT ?_ | refine splF ?_ | refine splNot ?_
   | ((first | refine splIn ?_ ?_ | refine splD ?_ ?_ | refine splE ?_ ?_ | refine splNE ?_ ?_) <;> intro hc <;> first | (exfalso; omega) | (exfalso; dsimp only at hc; omega) | skip)
   | ((with_reducible show CallEv _ _ 86 _ _ _ _ _); refine callE (k := 86) (fun β w' hbw => h86 w' hbw) ?_)
   | ((with_reducible show CallEv _ _ 87 _ _ _ _ _); refine callF [] (fun y : ByT D K => .agg #[.slice o D.length c, iv K, .slice (some y.1.2.1.1) (D.length + 1) y.1.2.1.2, .slice (some y.1.2.2.1) (D.length + 1) y.1.2.2.2]) (fun y w2 => St w.heap.size (ByIn D y) w2) (fun β w' _ hbw => h87 w' hbw) ?_; intro y)
 all_goals first | (exfalso; omega) | skip
 obtain ⟨⟨⟨A, B⟩, ⟨aa, ac⟩, ⟨ab, bc⟩⟩, hby⟩ := y
 dsimp only at hby
 have hlB := hby.l.2
 have hIn : ∀ w', (Below w.heap.size w w' ∧ St w.heap.size (ByIn D (⟨((A, B), (aa, ac), (ab, bc)), hby⟩ : ByT D K)) w') → Rd 1 iF (.slice (some aa) (D.length + 1) ac) A w' ∧ Rd 1 iF (.slice (some ab) (D.length + 1) bc) B w' := fun w' h => h.2.now
 have eB := fun (w' : World) hw' => rd_ati (hIn w' hw').2 (atI_get (show 0 < B.length by omega))
 have hBb := tb_bd hby D.length 0 (by omega) (Nat.zero_le _) (Nat.zero_le _)
 by_cases hB7 : 1000000000 ≤ atI B 0
 · have hok : BuyR.Ok ⟨A, B, [], none, 0, none, 0, 0, 0, 7⟩ D K := ⟨⟨hby, fun h => absurd rfl h⟩, .inl ⟨rfl, hB7, rfl, rfl, rfl⟩⟩
   generalize atI B 0 = b0 at *
   repeat'
    conv => whnf
    first
     | refine zA ?_ | refine zB ?_ | refine zC ?_ | refine zD ?_ | refine zE ?_ | refine zF ?_ | refine zG ?_ | refine zH ?_ | refine zJ ?_ | refine zI ?_ | refine splT ?_ | refine splF ?_ | refine splNot ?_
     | ((first | refine splIn ?_ ?_ | refine splD ?_ ?_ | refine splE ?_ ?_ | refine splNE ?_ ?_) <;> intro hc <;> first | (exfalso; omega) | (exfalso; dsimp only at hc; omega) | skip)
     | refine Exists.intro (α := List Value) [iv b0] ⟨⟨rfl, fun w' hw' => eB w' hw'⟩, ?_⟩
   all_goals first | (exfalso; omega) | exact ⟨fun w' h => h.1, fun β w' hB hblk => ⟨⟨_, hok⟩, rfl, fun w2 k2 h0 => absurd h0 (show ¬ ((7 : Int) = 0) by decide)⟩⟩
 · by_cases hn : atI B 0 = 0 ∧ pS D D.length = 0
   · have hok : BuyR.Ok ⟨A, B, [], none, 0, some ab, D.length + 1, bc, atI B 0, 0⟩ D K := ⟨⟨hby, fun h => absurd rfl h⟩, .inr ⟨rfl, by show atI B 0 < 1000000000; omega, rfl, .inl ⟨rfl, hn⟩, rfl⟩⟩
     have h88 := fun w' (hw' : Below w.heap.size w w' ∧ St w.heap.size (ByIn D (⟨((A, B), (aa, ac), (ab, bc)), hby⟩ : ByT D K)) w') => plan_nil D K o c A B (some aa) (some ab) ac bc w' (h.below hw'.1) hR hby (hIn w' hw').1 (hIn w' hw').2 hn
     generalize hb0 : atI B 0 = b0 at *
     repeat'
      conv => whnf
      first
       | refine zA ?_ | refine zB ?_ | refine zC ?_ | refine zD ?_ | refine zE ?_ | refine zF ?_ | refine zG ?_ | refine zH ?_ | refine zJ ?_ | refine zI ?_ | refine splT ?_ | refine splF ?_ | refine splNot ?_
       | ((first | refine splIn ?_ ?_ | refine splD ?_ ?_ | refine splE ?_ ?_ | refine splNE ?_ ?_) <;> intro hc <;> first | (exfalso; omega) | (exfalso; dsimp only at hc; omega) | skip)
       | refine Exists.intro (α := List Value) [iv b0] ⟨⟨rfl, fun w' hw' => eB w' hw'⟩, ?_⟩
       | ((with_reducible show CallEv _ _ 88 _ _ _ _ _); refine callE (k := 88) (fun β w' hbw => h88 w' hbw) ?_)
     all_goals first | (exfalso; omega) | exact ⟨fun w' h => h.1, fun β w' hB hblk => ⟨⟨_, hok⟩, rfl, fun w2 k2 _ => ⟨.inl ⟨rfl, rfl⟩, (hB.2 w2 k2).2⟩⟩⟩
   · have hok : ∀ (b d : Nat), BuyR.Ok ⟨A, B, plO D K A B, some ⟨b, 0, none⟩, d, some ab, D.length + 1, bc, atI B 0, 0⟩ D K := fun b d => ⟨⟨hby, fun _ => ⟨_, rfl⟩⟩, .inr ⟨rfl, by show atI B 0 < 1000000000; omega, rfl, plan_ok2 hR hby (by show atI B 0 < 1000000000; omega) hn, rfl⟩⟩
     have h88 := fun w' (hw' : Below w.heap.size w w' ∧ St w.heap.size (ByIn D (⟨((A, B), (aa, ac), (ab, bc)), hby⟩ : ByT D K)) w') => plan_own D K o c A B (some aa) (some ab) ac bc w' (h.below hw'.1) hR hby (hIn w' hw').1 (hIn w' hw').2 (by omega) hn
     generalize hb0 : atI B 0 = b0 at *
     generalize plO D K A B = L at *
     repeat'
      conv => whnf
      first
       | refine zA ?_ | refine zB ?_ | refine zC ?_ | refine zD ?_ | refine zE ?_ | refine zF ?_ | refine zG ?_ | refine zH ?_ | refine zJ ?_ | refine zI ?_ | refine splT ?_ | refine splF ?_ | refine splNot ?_
       | ((first | refine splIn ?_ ?_ | refine splD ?_ ?_ | refine splE ?_ ?_ | refine splNE ?_ ?_) <;> intro hc <;> first | (exfalso; omega) | (exfalso; dsimp only at hc; omega) | skip)
       | refine Exists.intro (α := List Value) [iv b0] ⟨⟨rfl, fun w' hw' => eB w' hw'⟩, ?_⟩
       | ((with_reducible show CallEv _ _ 88 _ _ _ _ _); refine callO 2 [] (.os 2 3 L.length) L.length 1 (L.flatMap nF) 3 rfl (fun β w' _ hbw => (h88 w' hbw).mono fun _ _ ⟨b, c, h1, h2, h3, h4⟩ => ⟨b, c, h1, h2, h3, h4⟩) ?_)
     all_goals first | (exfalso; omega) | exact ⟨fun w' h => h.1, fun β w' hB hblk => ⟨⟨_, hok (β 2) (β 3)⟩, rfl, fun w2 k2 _ => ⟨Rd.of_owns (sz := 1) (f := nF) (fun _ => rfl) rfl rfl (hblk 2 _ rfl rfl w2 k2), (hB.2 w2 k2).2⟩⟩⟩
end Go.Proofs.Ythfabodamhdhaaa
namespace Go.Proofs.Ythfabodamhdhaaa
open Go Tx Go.RowKit
set_option linter.unusedSimpArgs false
set_option linter.unusedVariables false
def spL (D : List Mk) : List Nat → Int
 | [] => 0
 | [t] => prO D t D.length
 | t :: s :: R => prO D t s + spL D (s :: R)
theorem spL_drop (D : List Mk) {L : List Nat} {i m : Nat} (h : L[i]? = some m) : spL D (L.drop i) = prO D m (unO D.length L i) + spL D (L.drop (i + 1)) := by
 have hl := (List.getElem?_eq_some_iff.1 h).1
 have e : L.drop i = m :: L.drop (i + 1) := by rw [List.drop_eq_getElem_cons hl]; congr 1; exact (List.getElem?_eq_some_iff.1 h).2
 rw [e]
 unfold unO
 by_cases h1 : i + 1 < L.length
 · rw [if_pos h1]
   have e2 : L.drop (i + 1) = L[i + 1] :: L.drop (i + 1 + 1) := List.drop_eq_getElem_cons h1
   rw [e2, List.getElem?_eq_getElem h1]
   rfl
 · rw [if_neg h1, List.drop_eq_nil_of_le (by omega)]
   simp [spL]
structure PlF (D : List Mk) (K : Nat) (L : List Nat) (cost : Int) : Prop where
 n : ∀ i m, L[i]? = some m → m < D.length ∧ (mkA D m).op = true ∧ m < unO D.length L i ∧ unO D.length L i ≤ D.length ∧ fdB D K m (unO D.length L i) = true
 s : ∀ i m p, L[i + 1]? = some m → L[i]? = some p → p < m
 c : spL D L = cost
 z : ∀ m, L[0]? = some m → pS D m = 0
 e : L = [] → pS D D.length = 0
theorem Pc.facts {D : List Mk} {K : Nat} {A : List Int} : ∀ (R : List Nat) (t : Nat), Pc D K A t R → t < D.length → (mkA D t).op = true → atI A D.length = 0 → (∀ i m, (t :: R)[i]? = some m → m < D.length ∧ (mkA D m).op = true ∧ m < unO D.length (t :: R) i ∧ unO D.length (t :: R) i ≤ D.length ∧ fdB D K m (unO D.length (t :: R) i) = true) ∧ (∀ i m p, (t :: R)[i + 1]? = some m → (t :: R)[i]? = some p → p < m) ∧ spL D (t :: R) = atI A t
 | [], t, ⟨h1, h2⟩, ht, ho, hz => by
  refine ⟨fun i m hi => ?_, fun i m p hi => by simp at hi, h2⟩
  cases i with
  | zero =>
   simp only [List.getElem?_cons_zero, Option.some.injEq] at hi
   subst hi
   have e : unO D.length [t] 0 = D.length := by unfold unO; rw [if_neg (by simp)]
   rw [e]
   exact ⟨ht, ho, ht, Nat.le_refl _, h1⟩
  | succ i => simp at hi
 | s :: R, t, ⟨h1, h2, h3, h4, h5⟩, ht, ho, hz => by
  obtain ⟨g1, g2, g3⟩ := Pc.facts R s h5 h1.2 h2 hz
  have eu : ∀ i, unO D.length (t :: s :: R) (i + 1) = unO D.length (s :: R) i := fun i => by
   unfold unO
   by_cases h : i + 1 < (s :: R).length
   · rw [if_pos h, if_pos (by simp only [List.length_cons] at h ⊢; omega), List.getElem?_cons_succ]
   · rw [if_neg h, if_neg (by simp only [List.length_cons] at h ⊢; omega)]
  have e0 : unO D.length (t :: s :: R) 0 = s := by unfold unO; rw [if_pos (by simp)]; rfl
  refine ⟨fun i m hi => ?_, fun i m p hi hp => ?_, by rw [spL, g3]; exact h4.symm⟩
  · cases i with
    | zero =>
     simp only [List.getElem?_cons_zero, Option.some.injEq] at hi
     subst hi
     rw [e0]
     exact ⟨ht, ho, h1.1, by omega, h3⟩
    | succ i => rw [eu]; exact g1 i m (by simpa using hi)
  · cases i with
    | zero =>
     simp only [List.getElem?_cons_zero, List.getElem?_cons_succ, Option.some.injEq] at hi hp
     subst hi hp
     exact h1.1
    | succ i => exact g2 i m p (by simpa using hi) (by simpa using hp)
theorem PlanOk.facts {D : List Mk} {K : Nat} {A B : List Int} {L : List Nat} (h : PlanOk D K A B L) (hb : ByOk D K 0 A B) : PlF D K L (atI B 0) := by
 rcases h with ⟨rfl, h1, h2⟩ | ⟨t, R, rfl, h1, h2, h3, h4, h5⟩
 · exact ⟨fun i m hi => by simp at hi, fun i m p hi => by simp at hi, by rw [h1]; rfl, fun m hm => by simp at hm, fun _ => h2⟩
 · obtain ⟨g1, g2, g3⟩ := Pc.facts R t h5 h1 h2 hb.z.1
   exact ⟨g1, g2, by rw [g3, h3], fun m hm => by
    simp only [List.getElem?_cons_zero, Option.some.injEq] at hm
    subst hm; exact h4, fun e => by cases e⟩
theorem PlF.len {D : List Mk} {K : Nat} {L : List Nat} {cost : Int} (h : PlF D K L cost) : L.length ≤ D.length := by
 have key : ∀ (i m : Nat), L[i]? = some m → i ≤ m := by
  intro i
  induction i with
  | zero => intro m _; exact Nat.zero_le _
  | succ i ih =>
   intro m hm
   have hl := (List.getElem?_eq_some_iff.1 hm).1
   obtain ⟨p, hp⟩ : ∃ p, L[i]? = some p := ⟨_, List.getElem?_eq_getElem (by omega)⟩
   have := ih p hp
   have := h.s i m p hm hp
   omega
 rcases Nat.eq_zero_or_pos L.length with h0 | h0
 · omega
 · obtain ⟨m, hm⟩ : ∃ m, L[L.length - 1]? = some m := ⟨_, List.getElem?_eq_getElem (by omega)⟩
   have := key _ m hm
   have := (h.n _ m hm).1
   omega
theorem spL_nn {D : List Mk} {K : Nat} (hR : RoadOk D K) {L : List Nat} {cost : Int} (h : PlF D K L cost) : ∀ k i, L.length - i = k → 0 ≤ spL D (L.drop i)
 | 0, i, hk => by rw [List.drop_eq_nil_of_le (by omega)]; exact Int.le_refl _
 | k + 1, i, hk => by
  obtain ⟨m, hm⟩ : ∃ m, L[i]? = some m := ⟨_, List.getElem?_eq_getElem (by omega)⟩
  rw [spL_drop D hm]
  have h1 := h.n i m hm
  have := pr_bd hR (show m ≤ unO D.length L i by omega) h1.2.2.2.1 h1.1
  have := spL_nn hR h k (i + 1) (by omega)
  omega
set_option maxHeartbeats 4000000 in
set_option maxRecDepth 100000 in
theorem spend_ok (D : List Mk) (K : Nat) (o : Option Addr) (c : Nat) (L : List Nat) (po : Option Addr) (pc : Nat) (cost : Int) (w : World) (h : RdR o c D w) (hR : RoadOk D K) (hL : Rd 1 nF (.slice po L.length pc) L w) (hP : PlF D K L cost) (hc : cost ≤ 1000000000) :
 Calls Try.prog 130 #[rdV o D.length c K, .slice po L.length pc] w fun e w' => e = .returned (iv cost) ∧ Below w.heap.size w w' := by
 have hl := hR.l
 have hll := hP.len
 have h127 := fun a b h1 h2 h3 w' hb => price_ok D K o c a b w' (h.below hb) hR h1 h2 h3
 have h161 := fun i hi w' hb => until_ok D K o c L po pc i w' (hL.below hb) (by omega) hi
 have h0 := hP.c
 have hz : spL D L - spL D (L.drop 0) = 0 := by rw [List.drop_zero]; omega
 refine calls_val env mixed Try.func130 has130 Try.ntmps130 [.agg #[.slice o D.length c, iv K], .slice po L.length pc] (by simp) ?_
 repeat'
  conv => whnf
  first
   | refine zA ?_ | refine zB ?_ | refine zC ?_ | refine zD ?_ | refine zE ?_ | refine zF ?_ | refine zG ?_ | refine zH ?_ | refine zJ ?_ | refine zI ?_ | refine splT ?_ | refine splF ?_ | refine splNot ?_
   | ((first | refine splIn ?_ ?_ | refine splD ?_ ?_ | refine splE ?_ ?_ | refine splNE ?_ ?_) <;> intro hc <;> first | (exfalso; omega) | (exfalso; dsimp only at hc; omega) | skip)
 refine loopE (fun i : Nat => [(1, .v (.slice po L.length pc)), (2, .ptr 0 0), (4, .v (iv (spL D L - spL D (L.drop i)))), (7, .v (.slice po L.length pc)), (8, .v (iv L.length)), (9, .v (iv i))]) (fun _ => [(0, .cells [.v (.slice o D.length c), .v (iv K)] 107)]) (fun i => i ≤ L.length) (fun i => L.length - i) 0 (Nat.zero_le _) ⟨rfl, rfl, by rw [hz]; rfl, rfl, rfl, rfl, trivial⟩ ⟨rfl, trivial⟩ (fun _ => ⟨rfl, rfl⟩) ?_
 intro i hi
 rcases Nat.lt_or_ge i L.length with hil | hil
 · obtain ⟨m, hm⟩ : ∃ m, L[i]? = some m := ⟨_, List.getElem?_eq_getElem hil⟩
   obtain ⟨_, ap, rfl, _⟩ := hL.ptr (by omega)
   have e1 := fun (w' : World) hw' => rd_ati (hL.below (w' := w') hw') hm
   have hf := hP.n i m hm
   have h1 := h127 m (unO D.length L i) (by omega) hf.1 hf.2.2.2.1
   have h2 := h161 i hil
   have hb := pr_bd hR (show m ≤ unO D.length L i by omega) hf.2.2.2.1 hf.1
   have hd := spL_drop D hm
   have hn1 := spL_nn hR hP _ i rfl
   have hn2 := spL_nn hR hP _ (i + 1) rfl
   have hst : spL D L - spL D (L.drop (i + 1)) = spL D L - spL D (L.drop i) + prO D m (unO D.length L i) := by omega
   have hbd : 0 ≤ spL D L - spL D (L.drop i) + prO D m (unO D.length L i) ∧ spL D L - spL D (L.drop i) + prO D m (unO D.length L i) ≤ 1000000000 ∨ True := .inr trivial
   have hbd2 : -1000000000 ≤ spL D L - spL D (L.drop i) ∧ spL D L - spL D (L.drop i) ≤ 1000000000 := by
    have : spL D (L.drop i) ≤ spL D L := by
     have key : ∀ j, j ≤ L.length → spL D (L.drop j) ≤ spL D L := by
      intro j
      induction j with
      | zero => intro _; rw [List.drop_zero]; exact Int.le_refl _
      | succ j ih =>
       intro hj
       obtain ⟨q, hq⟩ : ∃ q, L[j]? = some q := ⟨_, List.getElem?_eq_getElem (by omega)⟩
       have h3 := spL_drop D hq
       have h4 := hP.n j q hq
       have := pr_bd hR (show q ≤ unO D.length L j by omega) h4.2.2.2.1 h4.1
       have := ih (by omega)
       omega
     exact key i hi
    omega
   generalize spL D L - spL D (L.drop i) = q at *
   generalize prO D m (unO D.length L i) = p at *
   generalize unO D.length L i = u at *
   repeat'
    conv => whnf
    first
     | refine zA ?_ | refine zB ?_ | refine zC ?_ | refine zD ?_ | refine zE ?_ | refine zF ?_ | refine zG ?_ | refine zH ?_ | refine zJ ?_ | refine zI ?_ | refine splT ?_ | refine splF ?_ | refine splNot ?_
     | ((first | refine splIn ?_ ?_ | refine splD ?_ ?_ | refine splE ?_ ?_ | refine splNE ?_ ?_) <;> intro hc <;> first | (exfalso; omega) | (exfalso; dsimp only at hc; omega) | skip)
     | refine Exists.intro (α := List Value) [iv m] ⟨⟨rfl, fun w' hw' => e1 w' hw'⟩, ?_⟩
     | ((with_reducible show CallEv _ _ 161 _ _ _ _ _); refine callE (k := 161) (fun β w' hbw => h2 w' hbw) ?_)
     | ((with_reducible show CallEv _ _ 127 _ _ _ _ _); refine callE (k := 127) (fun β w' hbw => h1 w' hbw) ?_)
   all_goals first | (exfalso; omega) | exact ⟨i + 1, by omega, by omega, Ent.weak rfl ⟨rfl, rfl, by rw [hst]; rfl, rfl, rfl, rfl, trivial⟩ ⟨rfl, trivial⟩ fun _ h => h⟩
 · have e : spL D L - spL D (L.drop i) = cost := by rw [List.drop_eq_nil_of_le hil, h0]; show cost - 0 = cost; omega
   rw [e]
   repeat'
    conv => whnf
    first
     | refine zA ?_ | refine zB ?_ | refine zC ?_ | refine zD ?_ | refine zE ?_ | refine zF ?_ | refine zG ?_ | refine zH ?_ | refine zJ ?_ | refine zI ?_ | refine splT ?_ | refine splF ?_ | refine splNot ?_
     | ((first | refine splIn ?_ ?_ | refine splD ?_ ?_ | refine splE ?_ ?_ | refine splNE ?_ ?_) <;> intro hc <;> first | (exfalso; omega) | (exfalso; dsimp only at hc; omega) | skip)
   all_goals first | (exfalso; omega) | exact ⟨fun β => rfl, fun w' h => h⟩
set_option maxHeartbeats 4000000 in
set_option maxRecDepth 100000 in
theorem planned_ok (D : List Mk) (K : Nat) (o : Option Addr) (c : Nat) (L : List Nat) (po : Option Addr) (pc : Nat) (cost : Int) (w : World) (h : RdR o c D w) (hR : RoadOk D K) (hL : Rd 1 nF (.slice po L.length pc) L w) (hP : PlF D K L cost) :
 Calls Try.prog 129 #[rdV o D.length c K, .slice po L.length pc] w fun e w' => e = .returned (.bool true) ∧ Below w.heap.size w w' := by
 have hl := hR.l
 have hll := hP.len
 have h128 := fun b hb2 w' hb => need_ok D K o c 0 b w' (h.below hb) hR (Nat.zero_le _) hb2
 have h126 := fun a b h1 h2 w' hb => feeds_ok D K o c a b w' (h.below hb) hR h1 h2
 have h161 := fun i hi w' hb => until_ok D K o c L po pc i w' (hL.below hb) (by omega) hi
 have hp0 : pS D 0 = 0 := rfl
 obtain ⟨_, ad, rfl, _⟩ := h.r.ptr (by omega)
 have hd := h.r
 refine calls_val env mixed Try.func129 has129 Try.ntmps129 [.agg #[.slice (some ad) D.length c, iv K], .slice po L.length pc] (by simp) ?_
 repeat'
  conv => whnf
  first
   | refine zA ?_ | refine zB ?_ | refine zC ?_ | refine zD ?_ | refine zE ?_ | refine zF ?_ | refine zG ?_ | refine zH ?_ | refine zJ ?_ | refine zI ?_ | refine splT ?_ | refine splF ?_ | refine splNot ?_
   | ((first | refine splIn ?_ ?_ | refine splD ?_ ?_ | refine splE ?_ ?_ | refine splNE ?_ ?_) <;> intro hc <;> first | (exfalso; omega) | (exfalso; dsimp only at hc; omega) | skip)
 refine loopE (fun i : Nat => [(1, .v (.slice po L.length pc)), (2, .ptr 0 0), (9, .v (.slice po L.length pc)), (10, .v (iv L.length)), (11, .v (iv i))]) (fun _ => [(0, .cells [.v (.slice (some ad) D.length c), .v (iv K)] 107)]) (fun i => i ≤ L.length) (fun i => L.length - i) 0 (Nat.zero_le _) ⟨rfl, rfl, rfl, rfl, rfl, trivial⟩ ⟨rfl, trivial⟩ (fun _ => ⟨rfl, rfl⟩) ?_
 intro i hi
 rcases Nat.lt_or_ge i L.length with hil | hil
 · obtain ⟨m, hm⟩ : ∃ m, L[i]? = some m := ⟨_, List.getElem?_eq_getElem hil⟩
   obtain ⟨_, ap, rfl, _⟩ := hL.ptr (by omega)
   have e1 := fun (w' : World) hw' => rd_ati (hL.below (w' := w') hw') hm
   have hf := hP.n i m hm
   obtain ⟨⟨nd, pr, tr, op⟩, hmk⟩ : ∃ b, D[m]? = some b := ⟨_, List.getElem?_eq_getElem hf.1⟩
   have hop : op = true := by have := hf.2.1; unfold mkA at this; rw [hmk] at this; exact this
   subst hop
   have e3 := fun (w' : World) hw' => rd_fld (hd.below (w' := w') hw') hmk 3 (.bool true) rfl
   have hwin : inB (m : Int) 0 ((D.length : Int) - 1) = true := by simp only [inB, Bool.and_eq_true, decide_eq_true_eq]; omega
   have h123 := fun w' => win_ok (m : Int) 0 ((D.length : Int) - 1) w'
   rw [hwin] at h123
   have hml := hf.1
   cases i with
   | zero =>
    clear h128 h126 h161
    repeat'
     conv => whnf
     first
      | refine zA ?_ | refine zB ?_ | refine zC ?_ | refine zD ?_ | refine zE ?_ | refine zF ?_ | refine zG ?_ | refine zH ?_ | refine zJ ?_ | refine zI ?_ | refine splT ?_ | refine splF ?_ | refine splNot ?_
      | ((first | refine splIn ?_ ?_ | refine splD ?_ ?_ | refine splE ?_ ?_ | refine splNE ?_ ?_) <;> intro hc <;> first | (exfalso; omega) | (exfalso; dsimp only at hc; omega) | skip)
      | refine Exists.intro (α := List Value) [iv m] ⟨⟨rfl, fun w' hw' => e1 w' hw'⟩, ?_⟩
      | ((with_reducible show CallEv _ _ 123 _ _ _ _ _); refine callE (k := 123) (fun β w' hbw => h123 w') ?_)
      | refine Exists.intro (α := List Value) [.bool true] ⟨⟨rfl, fun w' hw' => e3 w' hw'⟩, ?_⟩
    all_goals first | (exfalso; omega) | exact ⟨1, by omega, by omega, Ent.weak rfl ⟨rfl, rfl, rfl, rfl, rfl, trivial⟩ ⟨rfl, trivial⟩ fun _ h => h⟩
   | succ i =>
    obtain ⟨p, hp⟩ : ∃ p, L[i]? = some p := ⟨_, List.getElem?_eq_getElem (by omega)⟩
    have hpm := hP.s i m p hm hp
    have e2 := fun (w' : World) hw' => rd_ati (hL.below (w' := w') hw') hp
    have ei : ((i + 1 : Nat) : Int) - 1 = i := by omega
    clear h128 h126 h161
    repeat'
     conv => whnf
     first
      | refine zA ?_ | refine zB ?_ | refine zC ?_ | refine zD ?_ | refine zE ?_ | refine zF ?_ | refine zG ?_ | refine zH ?_ | refine zJ ?_ | refine zI ?_ | refine splT ?_ | refine splF ?_ | refine splNot ?_
      | ((first | refine splIn ?_ ?_ | refine splD ?_ ?_ | refine splE ?_ ?_ | refine splNE ?_ ?_) <;> intro hc <;> first | (exfalso; omega) | (exfalso; dsimp only at hc; omega) | skip)
      | refine Exists.intro (α := List Value) [iv m] ⟨⟨rfl, fun w' hw' => e1 w' hw'⟩, ?_⟩
      | ((with_reducible show CallEv _ _ 123 _ _ _ _ _); refine callE (k := 123) (fun β w' hbw => h123 w') ?_)
      | refine Exists.intro (α := List Value) [.bool true] ⟨⟨rfl, fun w' hw' => e3 w' hw'⟩, ?_⟩
      | refine Exists.intro (α := List Value) [iv p] ⟨⟨rfl, fun w' hw' => by have := e2 w' hw'; rw [← ei] at this; exact this⟩, ?_⟩
    all_goals first | (exfalso; omega) | exact ⟨i + 1 + 1, by omega, by omega, Ent.weak rfl ⟨rfl, rfl, rfl, rfl, rfl, trivial⟩ ⟨rfl, trivial⟩ fun _ h => h⟩
 · obtain rfl : i = L.length := by omega
   rcases Nat.eq_zero_or_pos L.length with h0 | h0
   · have hL0 : L = [] := List.length_eq_zero_iff.1 h0
     have he := hP.e hL0
     have hn := h128 D.length (Nat.le_refl _)
     rw [show pS D D.length - pS D 0 = 0 from by omega] at hn
     clear h126 h161 h128
     repeat'
      conv => whnf
      first
       | refine zA ?_ | refine zB ?_ | refine zC ?_ | refine zD ?_ | refine zE ?_ | refine zF ?_ | refine zG ?_ | refine zH ?_ | refine zJ ?_ | refine zI ?_ | refine splT ?_ | refine splF ?_ | refine splNot ?_
       | ((first | refine splIn ?_ ?_ | refine splD ?_ ?_ | refine splE ?_ ?_ | refine splNE ?_ ?_) <;> intro hc <;> first | (exfalso; omega) | (exfalso; dsimp only at hc; omega) | skip)
       | ((with_reducible show CallEv _ _ 128 _ _ _ _ _); refine callE (k := 128) (fun β w' hbw => hn w' hbw) ?_)
     all_goals first | (exfalso; omega) | exact ⟨fun β => rfl, fun w' h => h⟩
   · obtain ⟨_, ap, rfl, _⟩ := hL.ptr (by omega)
     repeat'
      conv => whnf
      first
       | refine zA ?_ | refine zB ?_ | refine zC ?_ | refine zD ?_ | refine zE ?_ | refine zF ?_ | refine zG ?_ | refine zH ?_ | refine zJ ?_ | refine zI ?_ | refine splT ?_ | refine splF ?_ | refine splNot ?_
       | ((first | refine splIn ?_ ?_ | refine splD ?_ ?_ | refine splE ?_ ?_ | refine splNE ?_ ?_) <;> intro hc <;> first | (exfalso; omega) | (exfalso; dsimp only at hc; omega) | skip)
     all_goals first | (exfalso; omega) | skip
     refine loopE (fun i : Nat => [(1, .v (.slice (some ap) L.length pc)), (2, .ptr 0 0), (55, .v (.slice (some ap) L.length pc)), (56, .v (iv L.length)), (57, .v (iv i))]) (fun _ => [(0, .cells [.v (.slice (some ad) D.length c), .v (iv K)] 107)]) (fun i => i ≤ L.length) (fun i => L.length - i) 0 (Nat.zero_le _) ⟨rfl, rfl, rfl, rfl, rfl, trivial⟩ ⟨rfl, trivial⟩ (fun _ => ⟨rfl, rfl⟩) ?_
     intro i hi
     rcases Nat.lt_or_ge i L.length with hil | hil
     · obtain ⟨m, hm⟩ : ∃ m, L[i]? = some m := ⟨_, List.getElem?_eq_getElem hil⟩
       have e1 := fun (w' : World) hw' => rd_ati (hL.below (w' := w') hw') hm
       have hf := hP.n i m hm
       have h1 := h126 m (unO D.length L i) (by omega) hf.2.2.2.1
       rw [hf.2.2.2.2] at h1
       have h2 := h161 i hil
       generalize unO D.length L i = u at *
       clear h126 h161 h128
       repeat'
        conv => whnf
        first
         | refine zA ?_ | refine zB ?_ | refine zC ?_ | refine zD ?_ | refine zE ?_ | refine zF ?_ | refine zG ?_ | refine zH ?_ | refine zJ ?_ | refine zI ?_ | refine splT ?_ | refine splF ?_ | refine splNot ?_
         | ((first | refine splIn ?_ ?_ | refine splD ?_ ?_ | refine splE ?_ ?_ | refine splNE ?_ ?_) <;> intro hc <;> first | (exfalso; omega) | (exfalso; dsimp only at hc; omega) | skip)
         | refine Exists.intro (α := List Value) [iv m] ⟨⟨rfl, fun w' hw' => e1 w' hw'⟩, ?_⟩
         | ((with_reducible show CallEv _ _ 161 _ _ _ _ _); refine callE (k := 161) (fun β w' hbw => h2 w' hbw) ?_)
         | ((with_reducible show CallEv _ _ 126 _ _ _ _ _); refine callE (k := 126) (fun β w' hbw => h1 w' hbw) ?_)
       all_goals first | (exfalso; omega) | exact ⟨i + 1, by omega, by omega, Ent.weak rfl ⟨rfl, rfl, rfl, rfl, rfl, trivial⟩ ⟨rfl, trivial⟩ fun _ h => h⟩
     · obtain ⟨m, hm⟩ : ∃ m, L[0]? = some m := ⟨_, List.getElem?_eq_getElem h0⟩
       have e1 := fun (w' : World) hw' => rd_ati (hL.below (w' := w') hw') hm
       have hz := hP.z m hm
       have hn := h128 m (by have := (hP.n 0 m hm).1; omega)
       rw [hz, hp0] at hn
       clear h126 h161 h128
       repeat'
        conv => whnf
        first
         | refine zA ?_ | refine zB ?_ | refine zC ?_ | refine zD ?_ | refine zE ?_ | refine zF ?_ | refine zG ?_ | refine zH ?_ | refine zJ ?_ | refine zI ?_ | refine splT ?_ | refine splF ?_ | refine splNot ?_
         | ((first | refine splIn ?_ ?_ | refine splD ?_ ?_ | refine splE ?_ ?_ | refine splNE ?_ ?_) <;> intro hc <;> first | (exfalso; omega) | (exfalso; dsimp only at hc; omega) | skip)
         | refine Exists.intro (α := List Value) [iv m] ⟨⟨rfl, fun w' hw' => e1 w' hw'⟩, ?_⟩
         | ((with_reducible show CallEv _ _ 128 _ _ _ _ _); refine callE (k := 128) (fun β w' hbw => hn w' hbw) ?_)
       all_goals first | (exfalso; omega) | exact ⟨fun β => rfl, fun w' h => h⟩
set_option maxHeartbeats 4000000 in
set_option maxRecDepth 100000 in
theorem Spend_ok (D : List Mk) (K : Nat) (o : Option Addr) (c : Nat) (L : List Nat) (po : Option Addr) (pc : Nat) (cost : Int) (w : World) (h : RdR o c D w) (hR : RoadOk D K) (hL : Rd 1 nF (.slice po L.length pc) L w) (hP : PlF D K L cost) (hc : cost ≤ 1000000000) :
 Calls Try.prog 89 #[rdV o D.length c K, .slice po L.length pc] w fun e w' => e = .returned (.tuple #[iv cost, iv 0]) ∧ Below w.heap.size w w' := by
 have h86 := fun w' hb => rvalid_ok D K o c w' (h.below hb) hR
 have h129 := fun w' hb => planned_ok D K o c L po pc cost w' (h.below hb) hR (hL.below hb) hP
 have h130 := fun w' hb => spend_ok D K o c L po pc cost w' (h.below hb) hR (hL.below hb) hP hc
 refine calls_val env mixed Try.func89 has89 Try.ntmps89 [.agg #[.slice o D.length c, iv K], .slice po L.length pc] (by simp) ?_
 repeat'
  conv => whnf
  first
   | refine zA ?_ | refine zB ?_ | refine zC ?_ | refine zD ?_ | refine zE ?_ | refine zF ?_ | refine zG ?_ | refine zH ?_ | refine zJ ?_ | refine zI ?_ | refine splT ?_ | refine splF ?_ | refine splNot ?_
   | ((first | refine splIn ?_ ?_ | refine splD ?_ ?_ | refine splE ?_ ?_ | refine splNE ?_ ?_) <;> intro hc <;> first | (exfalso; omega) | (exfalso; dsimp only at hc; omega) | skip)
   | ((with_reducible show CallEv _ _ 86 _ _ _ _ _); refine callE (k := 86) (fun β w' hbw => h86 w' hbw) ?_)
   | ((with_reducible show CallEv _ _ 129 _ _ _ _ _); refine callE (k := 129) (fun β w' hbw => h129 w' hbw) ?_)
   | ((with_reducible show CallEv _ _ 130 _ _ _ _ _); refine callE (k := 130) (fun β w' hbw => h130 w' hbw) ?_)
 all_goals first | (exfalso; omega) | exact ⟨fun β => rfl, fun w' h => h⟩
end Go.Proofs.Ythfabodamhdhaaa
namespace Go.Proofs.Ythfabodamhdhaaa
open Go Tx Go.RowKit
set_option linter.unusedSimpArgs false
set_option linter.unusedVariables false
theorem tb_le {D : List Mk} {K : Nat} {A B : List Int} (h : ByOk D K 0 A B) {t : Nat} (ht : t < D.length) : atI B t ≤ atI A t ∧ ((mkA D t).nd = 0 → atI B t ≤ atI B (t + 1)) := by
 have h1 := h.t t (Nat.zero_le _) ht
 unfold BtOk at h1
 have e := imin_eq (atI A t) (atI B (t + 1))
 split at h1
 · omega
 · exact ⟨by omega, fun h2 => by contradiction⟩
theorem tb_ask {D : List Mk} {K : Nat} {A B : List Int} (hR : RoadOk D K) (h : ByOk D K 0 A B) {t s : Nat} (ht : t < s) (hs : s ≤ D.length) (hk : s ≤ t + K) (ho : (mkA D t).op = true) : atI B t ≤ prO D t s + atI B s := by
 have h1 := (tb_le h (show t < D.length by omega)).1
 obtain ⟨i, g1, g2, g3, g4⟩ : ∃ i, s ≤ i ∧ i ≤ D.length ∧ atI A i = atI B s ∧ pS D i = pS D s := by
  rcases tb_chain hR h (D.length - s) s rfl hs with ⟨i, g1, g2, g3, g4⟩ | ⟨g1, g2⟩
  · exact ⟨i, g1, by omega, g3, g4⟩
  · exact ⟨D.length, hs, Nat.le_refl _, by rw [h.z.1, g1], g2⟩
 have hf : fdB D K t i = true := by
  unfold fdB
  rw [decide_eq_true_eq]
  have a1 := pS_le hR (show s ≤ min i (t + K) by omega) (by omega)
  have a2 := pS_le hR (show min i (t + K) ≤ i by omega) g2
  omega
 have h2 := (h.f t (Nat.zero_le _) (by omega)).le ho i (by omega) g2 hf
 have e : prO D t i = prO D t s := by unfold prO; rw [g4]
 omega
set_option maxHeartbeats 4000000 in
set_option maxRecDepth 100000 in
theorem rright_ok (D : List Mk) (K : Nat) (o : Option Addr) (c : Nat) (A B : List Int) (bo : Option Addr) (bc : Nat) (w : World) (h : RdR o c D w) (hR : RoadOk D K) (hby : ByOk D K 0 A B) (hB : Rd 1 iF (.slice bo (D.length + 1) bc) B w) :
 Calls Try.prog 90 #[rdV o D.length c K, .slice bo (D.length + 1) bc] w fun e w' => e = .returned (.bool true) ∧ Below w.heap.size w w' := by
 have hl := hR.l
 have hk := hR.k
 obtain ⟨_, ad, rfl, _⟩ := h.r.ptr (by omega)
 have hd := h.r
 have hlB := hby.l.2
 have h131 := fun w' hb => all131_ok B bo bc w' (by rw [hlB]; exact hB.below hb) (by omega)
 have hall : B.all (fun n : Int => inB n 0 1000000000) = true := List.all_eq_true.2 fun n hn => by
  obtain ⟨i, hi⟩ := List.mem_iff_getElem?.1 hn
  have hil := (List.getElem?_eq_some_iff.1 hi).1
  have := tb_bd hby (D.length - i) i rfl (Nat.zero_le _) (by omega)
  rw [atI_get hil, Option.some.injEq] at hi
  simp only [inB, Bool.and_eq_true, decide_eq_true_eq]
  omega
 rw [hall, hlB] at h131
 rw [← hlB] at hB
 obtain ⟨_, ab, rfl, _⟩ := hB.ptr (by omega)
 have eB := fun (i : Nat) (hi : i < D.length + 1) (w' : World) (hw' : Below w.heap.size w w') => rd_ati (hB.below (w' := w') hw') (atI_get (show i < B.length by omega))
 have h127 := fun a b h1 h2 h3 w' hb => price_ok D K (some ad) c a b w' (h.below hb) hR h1 h2 h3
 have en := eB D.length (by omega)
 rw [hby.z.2] at en
 refine calls_val env mixed Try.func90 has90 Try.ntmps90 [.agg #[.slice (some ad) D.length c, iv K], .slice (some ab) (D.length + 1) bc] (by simp) ?_
 repeat'
  conv => whnf
  first
   | refine zA ?_ | refine zB ?_ | refine zC ?_ | refine zD ?_ | refine zE ?_ | refine zF ?_ | refine zG ?_ | refine zH ?_ | refine zJ ?_ | refine zI ?_ | refine splT ?_ | refine splF ?_ | refine splNot ?_
   | ((first | refine splIn ?_ ?_ | refine splD ?_ ?_ | refine splE ?_ ?_ | refine splNE ?_ ?_) <;> intro hc <;> first | (exfalso; omega) | (exfalso; dsimp only at hc; omega) | skip)
   | ((with_reducible show CallEv _ _ 131 _ _ _ _ _); refine callE (k := 131) (fun β w' hbw => h131 w' hbw) ?_)
   | refine Exists.intro (α := List Value) [iv 0] ⟨⟨rfl, fun w' hw' => en w' hw'⟩, ?_⟩
 all_goals first | (exfalso; omega) | skip
 refine loopE (fun t : Nat => [(1, .v (.slice (some ab) (D.length + 1) bc)), (2, .ptr 0 0), (5, .v (iv D.length)), (30, .v (.slice (some ad) D.length c)), (31, .v (iv D.length)), (32, .v (iv t))]) (fun _ => [(0, .cells [.v (.slice (some ad) D.length c), .v (iv K)] 107)]) (fun t => t ≤ D.length) (fun t => D.length - t) 0 (Nat.zero_le _) ⟨rfl, rfl, rfl, rfl, rfl, rfl, trivial⟩ ⟨rfl, trivial⟩ (fun _ => ⟨rfl, rfl⟩) ?_
 intro t ht
 rcases Nat.lt_or_ge t D.length with htl | htl
 · obtain ⟨⟨nd, pr, tr, op⟩, hmk⟩ : ∃ b, D[t]? = some b := ⟨_, List.getElem?_eq_getElem htl⟩
   have emk : mkA D t = ⟨nd, pr, tr, op⟩ := by unfold mkA; rw [hmk]; rfl
   have e0 := fun (w' : World) hw' => rd_ati (hd.below (w' := w') hw') hmk
   have hle := tb_le hby htl
   rw [emk] at hle
   dsimp only at hle
   have et := eB t (by omega)
   have et1 := eB (t + 1) (by omega)
   have hask : ∀ s, t < s → s ≤ D.length → s ≤ t + K → op = true → atI B t ≤ prO D t s + atI B s := fun s h1 h2 h3 h4 => tb_ask hR hby h1 h2 h3 (by rw [emk]; exact h4)
   have hbb := fun i hi => tb_bd hby (D.length - i) i rfl (Nat.zero_le _) hi
   have hb1 := hbb t ht
   generalize hbt : atI B t = bt at *
   have hle2 := hle.2
   clear hle hmk emk h131
   generalize hbt1 : atI B (t + 1) = bt1 at *
   repeat'
    conv => whnf
    first
     | refine zA ?_ | refine zB ?_ | refine zC ?_ | refine zD ?_ | refine zE ?_ | refine zF ?_ | refine zG ?_ | refine zH ?_ | refine zJ ?_ | refine zI ?_ | refine splT ?_ | refine splF ?_ | refine splNot ?_
     | ((first | refine splIn ?_ ?_ | refine splD ?_ ?_ | refine splE ?_ ?_ | refine splNE ?_ ?_) <;> intro hc <;> first | (exfalso; omega) | (exfalso; dsimp only at hc; omega) | skip)
     | refine Exists.intro (α := List Value) [iv nd, iv pr, iv tr, .bool op] ⟨⟨rfl, fun w' hw' => e0 w' hw'⟩, ?_⟩
     | refine Exists.intro (α := List Value) [iv bt] ⟨⟨rfl, fun w' hw' => et w' hw'⟩, ?_⟩
     | refine Exists.intro (α := List Value) [iv bt1] ⟨⟨rfl, fun w' hw' => et1 w' hw'⟩, ?_⟩
   all_goals first | (exfalso; omega) | skip
   all_goals
    refine loopN 2 (fun s : Nat => [(1, .v (.slice (some ab) (D.length + 1) bc)), (2, .ptr 0 0), (5, .v (iv D.length)), (6, .v (iv t)), (7, .ptr 1 0), (8, .v (iv s)), (30, .v (.slice (some ad) D.length c)), (31, .v (iv D.length)), (32, .v (iv t))]) (fun _ => [(0, .cells [.v (.slice (some ad) D.length c), .v (iv K)] 107), (1, .cells [.v (iv nd), .v (iv pr), .v (iv tr), .v (.bool op)] 158)]) (fun s => t < s ∧ s ≤ D.length + 1) (fun s => D.length + 1 - s) (t + 1) ⟨by omega, by omega⟩ ⟨rfl, rfl, rfl, rfl, rfl, rfl, rfl, rfl, rfl, trivial⟩ ⟨rfl, rfl, trivial⟩ (fun _ _ => ⟨rfl, rfl⟩) ?_
    intro s ⟨hs1, hs2⟩
    cases op with
    | false =>
     repeat'
      conv => whnf
      first
       | refine zA ?_ | refine zB ?_ | refine zC ?_ | refine zD ?_ | refine zE ?_ | refine zF ?_ | refine zG ?_ | refine zH ?_ | refine zJ ?_ | refine zI ?_ | refine splT ?_ | refine splF ?_ | refine splNot ?_
       | ((first | refine splIn ?_ ?_ | refine splD ?_ ?_ | refine splE ?_ ?_ | refine splNE ?_ ?_) <;> intro hc <;> first | (exfalso; omega) | (exfalso; dsimp only at hc; omega) | skip)
     all_goals first | (exfalso; omega) | exact ⟨t + 1, by omega, by omega, Ent.weak rfl ⟨rfl, rfl, rfl, rfl, rfl, rfl, trivial⟩ ⟨rfl, trivial⟩ fun _ h => h⟩
    | true =>
     have emin := imin_eq (D.length : Int) ((t : Int) + K)
     by_cases hsm : s ≤ D.length ∧ s ≤ t + K
     · have hk2 := hask s hs1 hsm.1 hsm.2 rfl
       have es := eB s (by omega)
       have hp := h127 t s (by omega) htl hsm.1
       have hpb := pr_bd hR (show t ≤ s by omega) hsm.1 htl
       have hsb := hbb s hsm.1
       generalize prO D t s = p at *
       generalize atI B s = bs at *
       repeat'
        conv => whnf
        first
         | refine zA ?_ | refine zB ?_ | refine zC ?_ | refine zD ?_ | refine zE ?_ | refine zF ?_ | refine zG ?_ | refine zH ?_ | refine zJ ?_ | refine zI ?_ | refine splT ?_ | refine splF ?_ | refine splNot ?_
         | ((first | refine splIn ?_ ?_ | refine splD ?_ ?_ | refine splE ?_ ?_ | refine splNE ?_ ?_) <;> intro hc <;> first | (exfalso; omega) | (exfalso; dsimp only at hc; omega) | skip)
         | refine Exists.intro (α := List Value) [iv bt] ⟨⟨rfl, fun w' hw' => et w' hw'⟩, ?_⟩
         | refine Exists.intro (α := List Value) [iv bs] ⟨⟨rfl, fun w' hw' => es w' hw'⟩, ?_⟩
         | ((with_reducible show CallEv _ _ 127 _ _ _ _ _); refine callE (k := 127) (fun β w' hbw => hp w' hbw) ?_)
       all_goals first | (exfalso; omega) | exact ⟨s + 1, by omega, by omega, Ent.weak rfl ⟨rfl, rfl, rfl, rfl, rfl, rfl, rfl, rfl, rfl, trivial⟩ ⟨rfl, rfl, trivial⟩ fun _ h => h⟩
     · skip
       repeat'
        conv => whnf
        first
         | refine zA ?_ | refine zB ?_ | refine zC ?_ | refine zD ?_ | refine zE ?_ | refine zF ?_ | refine zG ?_ | refine zH ?_ | refine zJ ?_ | refine zI ?_ | refine splT ?_ | refine splF ?_ | refine splNot ?_
         | ((first | refine splIn ?_ ?_ | refine splD ?_ ?_ | refine splE ?_ ?_ | refine splNE ?_ ?_) <;> intro hc <;> first | (exfalso; omega) | (exfalso; dsimp only at hc; omega) | skip)
       all_goals first | (exfalso; omega) | exact ⟨t + 1, by omega, by omega, Ent.weak rfl ⟨rfl, rfl, rfl, rfl, rfl, rfl, trivial⟩ ⟨rfl, trivial⟩ fun _ h => h⟩
 · skip
   repeat'
    conv => whnf
    first
     | refine zA ?_ | refine zB ?_ | refine zC ?_ | refine zD ?_ | refine zE ?_ | refine zF ?_ | refine zG ?_ | refine zH ?_ | refine zJ ?_ | refine zI ?_ | refine splT ?_ | refine splF ?_ | refine splNot ?_
     | ((first | refine splIn ?_ ?_ | refine splD ?_ ?_ | refine splE ?_ ?_ | refine splNE ?_ ?_) <;> intro hc <;> first | (exfalso; omega) | (exfalso; dsimp only at hc; omega) | skip)
   all_goals first | (exfalso; omega) | exact ⟨fun β => rfl, fun w' h => h⟩
set_option maxHeartbeats 4000000 in
set_option maxRecDepth 100000 in
theorem ProveBuy_ok (D : List Mk) (K : Nat) (o : Option Addr) (c : Nat) (A B : List Int) (L : List Nat) (po bo : Option Addr) (pc bc : Nat) (w : World) (h : RdR o c D w) (hR : RoadOk D K) (hby : ByOk D K 0 A B) (hP : PlanOk D K A B L) (hL : Rd 1 nF (.slice po L.length pc) L w) (hB : Rd 1 iF (.slice bo (D.length + 1) bc) B w) :
 Calls Try.prog 55 #[rdV o D.length c K, .slice po L.length pc, iv (atI B 0), .slice bo (D.length + 1) bc] w fun e w' => e = .returned (.bool true) ∧ Below w.heap.size w w' := by
 have hf := hP.facts hby
 have hb0 := tb_bd hby D.length 0 (by omega) (Nat.zero_le _) (Nat.zero_le _)
 have h89 := fun w' hb => Spend_ok D K o c L po pc (atI B 0) w' (h.below hb) hR (hL.below hb) hf hb0.2
 have h90 := fun w' hb => rright_ok D K o c A B bo bc w' (h.below hb) hR hby (hB.below hb)
 have hl := hR.l
 have hlB := hby.l.2
 rw [← hlB] at hB
 obtain ⟨_, ab, rfl, _⟩ := hB.ptr (by omega)
 have eB := fun (w' : World) (hw' : Below w.heap.size w w') => rd_ati (hB.below (w' := w') hw') (atI_get (show 0 < B.length by omega))
 generalize atI B 0 = b0 at *
 refine calls_val env mixed Try.func55 has55 Try.ntmps55 [.agg #[.slice o D.length c, iv K], .slice po L.length pc, iv b0, .slice (some ab) (D.length + 1) bc] (by simp) ?_
 repeat'
  conv => whnf
  first
   | refine zA ?_ | refine zB ?_ | refine zC ?_ | refine zD ?_ | refine zE ?_ | refine zF ?_ | refine zG ?_ | refine zH ?_ | refine zJ ?_ | refine zI ?_ | refine splT ?_ | refine splF ?_ | refine splNot ?_
   | ((first | refine splIn ?_ ?_ | refine splD ?_ ?_ | refine splE ?_ ?_ | refine splNE ?_ ?_) <;> intro hc <;> first | (exfalso; omega) | (exfalso; dsimp only at hc; omega) | skip)
   | ((with_reducible show CallEv _ _ 89 _ _ _ _ _); refine callE (k := 89) (fun β w' hbw => h89 w' hbw) ?_)
   | ((with_reducible show CallEv _ _ 90 _ _ _ _ _); refine callE (k := 90) (fun β w' hbw => h90 w' hbw) ?_)
   | refine Exists.intro (α := List Value) [iv b0] ⟨⟨rfl, fun w' hw' => eB w' hw'⟩, ?_⟩
 all_goals first | (exfalso; omega) | exact ⟨fun β => rfl, fun w' h => h⟩ | exact ⟨fun β => congrArg Value.bool (decide_eq_true (Int.le_refl b0)), fun w' h => h⟩
end Go.Proofs.Ythfabodamhdhaaa
namespace Go.Proofs.Ythfabodamhdhaaa
open Go Tx Go.RowKit
set_option linter.unusedSimpArgs false
set_option linter.unusedVariables false
def m3 (b n m nr ty : Nat) (XS YS : List SV) (C : List Value) : List (Nat × Blk) := [(b, .mix (b + 1) n 9 [] XS 57), (b + 2, .mix (b + 3) m 1 [] YS 61), (b + 4, .mix (b + 5) nr 2 [] (C.map .v) ty)]
theorem lk_m3 {b n m nr ty : Nat} {XS YS : List SV} {C : List Value} {i : Nat} {bk : Blk} (h : lk (m3 b n m nr ty XS YS C) i = some bk) :
 (i = b ∧ bk = .mix (b + 1) n 9 [] XS 57) ∨ (i = b + 2 ∧ bk = .mix (b + 3) m 1 [] YS 61) ∨ (i = b + 4 ∧ bk = .mix (b + 5) nr 2 [] (C.map .v) ty) := by
 have hb : ∀ a c : Nat, Nat.beq a c = true → a = c := fun a c => Nat.eq_of_beq_eq_true
 simp only [m3, lk] at h
 cases h1 : Nat.beq i b with
 | true => rw [h1, cond_true, Option.some.injEq] at h; exact .inl ⟨hb _ _ h1, h.symm⟩
 | false =>
  rw [h1, cond_false] at h
  cases h2 : Nat.beq i (b + 2) with
  | true => rw [h2, cond_true, Option.some.injEq] at h; exact .inr (.inl ⟨hb _ _ h2, h.symm⟩)
  | false =>
   rw [h2, cond_false] at h
   cases h3 : Nat.beq i (b + 4) with
   | true => rw [h3, cond_true, Option.some.injEq] at h; exact .inr (.inr ⟨hb _ _ h3, h.symm⟩)
   | false => rw [h3, cond_false] at h; cases h
end Go.Proofs.Ythfabodamhdhaaa
namespace Go.Proofs.Ythfabodamhdhaaa
open Go Tx Go.RowKit
set_option linter.unusedSimpArgs false
set_option linter.unusedVariables false
abbrev toI (s : Nat × Nat × Nat) : Int × Int × Int := ((s.1 : Int), (s.2.1 : Int), (s.2.2 : Int))
def Ch (x : To) : Nat → Nat → Nat → List (Nat × Nat × Nat) → Prop
 | S, a, d, [] => S = 0 ∨ lsO x a 0 + d ≤ x.days
 | S, a, d, (t, f, l) :: L => (1 ≤ t ∧ t < x.T.length) ∧ S.testBit t = false ∧ d + lsN x a t ≤ f ∧ l ∈ ALO x t f ∧ Ch x (S ||| 2 ^ t) t (l + 1) L
def Va (x : To) : Nat → List (Nat × Nat × Nat) → Int
 | a, [] => -csO x a 0
 | a, (t, f, l) :: L => gnO x t f l - csO x a t + Va x t L
theorem fold_ge {α : Type} {c : α → Bool} {g : α → Int} : ∀ (l : List α) (n : Int), n ≤ l.foldl (fun (n : Int) (t : α) => if c t = true then n else imax n (g t)) n
 | [], n => Int.le_refl _
 | t :: l, n => by
  rw [List.foldl_cons]
  refine Int.le_trans ?_ (fold_ge l _)
  split
  · exact Int.le_refl _
  · rw [imax_eq]; omega
theorem fold_at {α : Type} {c : α → Bool} {g : α → Int} : ∀ (l : List α) (n : Int), l.foldl (fun (n : Int) (t : α) => if c t = true then n else imax n (g t)) n = n ∨ ∃ u ∈ l, c u = false ∧ l.foldl (fun (n : Int) (t : α) => if c t = true then n else imax n (g t)) n = g u
 | [], n => .inl rfl
 | t :: l, n => by
  rw [List.foldl_cons]
  rcases fold_at l (if c t = true then n else imax n (g t)) with h | ⟨u, h1, h2, h3⟩
  · rw [h]
    cases hc : c t with
    | true => exact .inl (if_pos rfl)
    | false =>
     rw [if_neg (by decide), imax_eq]
     rcases Int.le_total n (g t) with h4 | h4
     · exact .inr ⟨t, List.mem_cons_self .., hc, by omega⟩
     · exact .inl (by omega)
  · exact .inr ⟨u, List.mem_cons_of_mem _ h1, h2, h3⟩
theorem foldm_eq {α : Type} {g : α → Int} (l : List α) (n : Int) : l.foldl (fun (n : Int) (t : α) => imax n (g t)) n = l.foldl (fun (n : Int) (t : α) => if (fun _ : α => false) t = true then n else imax n (g t)) n := foldl_congr fun n t _ => by simp
theorem bgO_at (x : To) (AL : Nat → Nat → List Nat) (S a : Nat) : ∀ m d, x.days.toNat - d = m → bgO x AL S a d = -1000000000000 ∨ ∃ f l, d ≤ f ∧ f < x.days.toNat ∧ l ∈ AL a f ∧ bgO x AL S a d = gnO x a f l + hmO x AL (S ||| 2 ^ a) a (l + 1)
 | 0, d, hm => .inl (bgO_end x AL S a d (by omega))
 | m + 1, d, hm => by
  rw [bgO_step x AL S a d (by omega), foldm_eq]
  rcases fold_at (c := fun _ => false) (g := fun l : Nat => gnO x a d l + hmO x AL (S ||| 2 ^ a) a (l + 1)) (AL a d) (bgO x AL S a (d + 1)) with h | ⟨l, h1, _, h2⟩
  · rw [h]
    rcases bgO_at x AL S a m (d + 1) (by omega) with h | ⟨f, l, h1, h2, h3, h4⟩
    · exact .inl h
    · exact .inr ⟨f, l, by omega, h2, h3, h4⟩
  · exact .inr ⟨d, l, Nat.le_refl _, by omega, h1, h2⟩
theorem hmO_ge (x : To) (AL : Nat → Nat → List Nat) (S a d : Nat) : bsO x S a d ≤ hmO x AL S a d := by
 rw [hmO_eq]
 exact fold_ge (c := fun t => S.testBit (t + 1)) (g := fun t => bgO x AL S (t + 1) (d + lsN x a (t + 1)) - csO x a (t + 1)) _ _
theorem hmO_at (x : To) (AL : Nat → Nat → List Nat) (S a d : Nat) : hmO x AL S a d = bsO x S a d ∨ ∃ t, (1 ≤ t ∧ t < x.T.length) ∧ S.testBit t = false ∧ hmO x AL S a d = bgO x AL S t (d + lsN x a t) - csO x a t := by
 rw [hmO_eq]
 rcases fold_at (c := fun t => S.testBit (t + 1)) (g := fun t => bgO x AL S (t + 1) (d + lsN x a (t + 1)) - csO x a (t + 1)) (List.range (x.T.length - 1)) (bsO x S a d) with h | ⟨u, h1, h2, h3⟩
 · exact .inl h
 · exact .inr ⟨u + 1, by have := List.mem_range.1 h1; omega, h2, h3⟩
theorem seqO_ch {x : To} (hn : ToN x) (h0 : csO x 0 0 = 0) : ∀ (n S a d : Nat), (S = 0 → a = 0) → unp (x.T.length - 1) S ≤ n → -900000000000 + 20000000 * (unp (x.T.length - 1) S : Int) ≤ hmO x (ALO x) S a d →
 ∃ L, seqO x n S a d = L.map toI ∧ Ch x S a d L ∧ Va x a L = hmO x (ALO x) S a d := by
 have hstop : ∀ S a d, (S = 0 → a = 0) → spE x S a d (hmO x (ALO x) S a d) = true → Ch x S a d [] ∧ Va x a [] = hmO x (ALO x) S a d := fun S a d hS h => by
  simp only [spE, Bool.or_eq_true, Bool.and_eq_true, decide_eq_true_eq] at h
  rcases h with ⟨e1, e2⟩ | ⟨e1, e2, e3⟩
  · exact ⟨.inl e1, by rw [e2]; simp only [Va]; rw [hS e1, h0]; rfl⟩
  · exact ⟨.inr e2, by rw [e3]; rfl⟩
 have hgo : ∀ S a d, -900000000000 + 20000000 * (unp (x.T.length - 1) S : Int) ≤ hmO x (ALO x) S a d → spE x S a d (hmO x (ALO x) S a d) = false → ∃ t f l, spO x S a d = some (t, f, l) := fun S a d hb h => by
  have hu : (0 : Int) ≤ (unp (x.T.length - 1) S : Int) := by omega
  simp only [spE, Bool.or_eq_false_iff, Bool.and_eq_false_iff, decide_eq_false_iff_not] at h
  obtain ⟨t, ht, hSt, hv⟩ : ∃ t, (1 ≤ t ∧ t < x.T.length) ∧ S.testBit t = false ∧ hmO x (ALO x) S a d = bgO x (ALO x) S t (d + lsN x a t) - csO x a t := by
   rcases hmO_at x (ALO x) S a d with h1 | h1
   · exfalso
     unfold bsO at h1
     split at h1
     · rename_i e
       rcases h.1 with h2 | h2
       · exact h2 e
       · exact h2 h1
     · rename_i e
       split at h1
       · rename_i e2
         rcases h.2 with h2 | h2 | h2
         · exact h2 e
         · exact h2 e2
         · exact h2 h1
       · omega
   · exact h1
  have hc := (hn.leg a t).2
  have hcs : csO x a t = (lgO x a t).2 := rfl
  rcases bgO_at x (ALO x) S t _ (d + lsN x a t) rfl with h1 | ⟨f, l, h1, h2, h3, h4⟩
  · omega
  · have hfin : spI x S a (hmO x (ALO x) S a d) t f l = true := by
     simp only [spI, decide_eq_true_eq]; omega
    have hT : (spT x S a d (hmO x (ALO x) S a d) t).isSome = true := by
     unfold spT
     rw [if_neg (by rw [hSt]; decide), List.findSome?_isSome_iff]
     refine ⟨f - (d + lsN x a t), List.mem_range.2 (by omega), ?_⟩
     rw [show d + lsN x a t + (f - (d + lsN x a t)) = f from by omega, Option.isSome_map, List.find?_isSome]
     exact ⟨l, h3, hfin⟩
    have hO : (spO x S a d).isSome = true := by
     unfold spO
     rw [if_neg (by
      intro e
      simp only [spE, Bool.or_eq_true, Bool.and_eq_true, decide_eq_true_eq] at e
      rcases e with ⟨e1, e2⟩ | ⟨e1, e2, e3⟩
      · rcases h.1 with h2 | h2
        · exact h2 e1
        · exact h2 e2
      · rcases h.2 with h2 | h2 | h2
        · exact h2 e1
        · exact h2 e2
        · exact h2 e3), List.findSome?_isSome_iff]
     exact ⟨t - 1, List.mem_range.2 (by omega), by rw [show t - 1 + 1 = t from by omega]; exact hT⟩
    obtain ⟨⟨t', f', l'⟩, hs⟩ := Option.isSome_iff_exists.1 hO
    exact ⟨t', f', l', hs⟩
 have hsp : ∀ S a d t f l, spO x S a d = some (t, f, l) → d + lsN x a t ≤ f ∧ l ∈ ALO x t f ∧ gnO x t f l - csO x a t + hmO x (ALO x) (S ||| 2 ^ t) t (l + 1) = hmO x (ALO x) S a d := fun S a d t f l h => by
  unfold spO at h
  split at h
  · cases h
  · obtain ⟨i, h1, h2⟩ := fs_some h
    unfold spT at h2
    split at h2
    · cases h2
    · obtain ⟨q, h3, h4⟩ := fs_some h2
      rw [Option.map_eq_some_iff] at h4
      obtain ⟨l', h5, h6⟩ := h4
      simp only [Prod.mk.injEq] at h6
      obtain ⟨rfl, rfl, rfl⟩ := h6
      have h7 := List.find?_some h5
      simp only [spI, decide_eq_true_eq] at h7
      exact ⟨by omega, List.mem_of_find?_eq_some h5, h7⟩
 intro n
 induction n with
 | zero =>
  intro S a d hS hu hb
  cases he : spE x S a d (hmO x (ALO x) S a d) with
  | true => exact ⟨[], rfl, hstop S a d hS he⟩
  | false =>
   obtain ⟨t, f, l, hs⟩ := hgo S a d hb he
   rw [spO_none hn (by omega)] at hs
   cases hs
 | succ n ih =>
  intro S a d hS hu hb
  cases he : spE x S a d (hmO x (ALO x) S a d) with
  | true =>
   refine ⟨[], ?_, hstop S a d hS he⟩
   have : spO x S a d = none := by unfold spO; rw [if_pos he]
   simp only [seqO, this, List.map_nil]
  | false =>
   obtain ⟨t, f, l, hs⟩ := hgo S a d hb he
   obtain ⟨h1, h2, h3, h4, h5⟩ := spO_some hn hs
   obtain ⟨g1, g2, g3⟩ := hsp S a d t f l hs
   have hu2 := unp_or (n := x.T.length - 1) (t := t - 1) (S := S) (by omega) (by rwa [show t - 1 + 1 = t from by omega])
   rw [show t - 1 + 1 = t from by omega] at hu2
   have ha := ALO_ok hn t f h1 h2 l g2
   have hg := gn_bd hn (a := t) (d := f) (l := l) h1 ⟨ha.1, ha.2.1⟩
   have hc := (hn.leg a t).2
   have hcs : csO x a t = (lgO x a t).2 := rfl
   have hS2 : S ||| 2 ^ t = 0 → t = 0 := fun e => by
    exfalso
    have : (S ||| 2 ^ t).testBit t = true := by rw [Nat.testBit_or, Nat.testBit_two_pow_self, Bool.or_true]
    rw [e] at this; simp at this
   obtain ⟨L, e1, e2, e3⟩ := ih (S ||| 2 ^ t) t (l + 1) hS2 (by omega) (by omega)
   refine ⟨(t, f, l) :: L, ?_, ⟨⟨h1, h2⟩, h3, g1, g2, e2⟩, ?_⟩
   · simp only [seqO, hs, e1, List.map_cons, toI]
   · simp only [Va]; omega
end Go.Proofs.Ythfabodamhdhaaa
namespace Go.Proofs.Ythfabodamhdhaaa
open Go Tx Go.RowKit
set_option linter.unusedSimpArgs false
set_option linter.unusedVariables false
theorem hm3 {b n m nr ty : Nat} {XS YS : List SV} {C : List Value} (h1 : SV.lts (b + 6) XS = true) (h2 : SV.lts (b + 6) YS = true) (i : Nat) (bk : Blk) (h : lk (m3 b n m nr ty XS YS C) i = some bk) : b ≤ i ∧ i < b + 6 ∧ bk.lt (b + 6) = true ∧ bk.live = true := by
 have h3 : SV.lts (b + 6) (C.map SV.v) = true := lts_v _ _
 have e1 : Nat.blt (b + 1) (b + 6) = true := by rw [Nat.blt_eq]; omega
 have e2 : Nat.blt (b + 3) (b + 6) = true := by rw [Nat.blt_eq]; omega
 have e3 : Nat.blt (b + 5) (b + 6) = true := by rw [Nat.blt_eq]; omega
 rcases lk_m3 h with ⟨rfl, rfl⟩ | ⟨rfl, rfl⟩ | ⟨rfl, rfl⟩ <;> exact ⟨by omega, by omega, by simp only [Blk.lt, h1, h2, h3, e1, e2, e3, Bool.and_self], rfl⟩
end Go.Proofs.Ythfabodamhdhaaa
namespace Go.Proofs.Ythfabodamhdhaaa
open Go Tx Go.RowKit
set_option linter.unusedSimpArgs false
set_option linter.unusedVariables false
theorem cv5 (a : Int) (h : 0 ≤ a ∧ a ≤ 255) : RunIs Try.prog (convert 5 3 (.int .u8 a)) (iv a) := fun w => by
 have h1 : Try.prog.underlying 5 = some (.int .u8) := by kernel_rfl
 have h2 : Try.prog.underlying 3 = some (.int .i64) := by kernel_rfl
 have e : IntKind.i64.wrap a = a := IR.wrap (k := .i64) (And.intro (by omega) (by omega))
 simp [convert, Conv.intToInt, Go.run_underlying h1 w, Go.run_underlying h2 w, e]
theorem cvE5 {a : Int} {K : Value → Prop} (h : 0 ≤ a ∧ a ≤ 255) (hK : K (iv a)) : ∃ v', RunIs Try.prog (convert 5 3 (.int .u8 a)) v' ∧ K v' := ⟨_, cv5 a h, hK⟩
end Go.Proofs.Ythfabodamhdhaaa
namespace Go.Proofs.Ythfabodamhdhaaa
open Go Tx Go.RowKit
set_option linter.unusedSimpArgs false
set_option linter.unusedVariables false
theorem cv52 (a : Int) (h : 0 ≤ a ∧ a ≤ 65535) : RunIs Try.prog (convert 52 3 (.int .u16 a)) (iv a) := fun w => by
 have h1 : Try.prog.underlying 52 = some (.int .u16) := by kernel_rfl
 have h2 : Try.prog.underlying 3 = some (.int .i64) := by kernel_rfl
 have e : IntKind.i64.wrap a = a := IR.wrap (k := .i64) (And.intro (by omega) (by omega))
 simp [convert, Conv.intToInt, Go.run_underlying h1 w, Go.run_underlying h2 w, e]
theorem cvE52 {a : Int} {K : Value → Prop} (h : 0 ≤ a ∧ a ≤ 65535) (hK : K (iv a)) : ∃ v', RunIs Try.prog (convert 52 3 (.int .u16 a)) v' ∧ K v' := ⟨_, cv52 a h, hK⟩
end Go.Proofs.Ythfabodamhdhaaa
namespace Go.Proofs.Ythfabodamhdhaaa.Tx
open Go Go.RowKit
end Go.Proofs.Ythfabodamhdhaaa.Tx
namespace Go.Proofs.Ythfabodamhdhaaa
open Go Tx Go.RowKit
end Go.Proofs.Ythfabodamhdhaaa
namespace Go.Proofs.Ythfabodamhdhaaa
open Go Tx Go.RowKit
set_option linter.unusedSimpArgs false
set_option linter.unusedVariables false
abbrev uF (p : Int) : List Value := [.int .u16 p]
def prc (P : List Int) (t : Int) : Int := ((P[((imax 0 t).tmod P.length).toNat]?).getD 0).tmod 1001
def mkS (P : List Int) (d : Int) : List (Int × Int × Int) → Int × Bool → Int × Bool
 | [], q => q
 | s :: S, q => mkS P d S (if s.2.1 ≤ d ∧ d ≤ s.2.2 then (prc P s.1, true) else q)
theorem mkS_snoc (P : List Int) (d : Int) : ∀ (S : List (Int × Int × Int)) (s : Int × Int × Int) (q : Int × Bool), mkS P d (S ++ [s]) q = if s.2.1 ≤ d ∧ d ≤ s.2.2 then (prc P s.1, true) else mkS P d S q
 | [], s, q => rfl
 | a :: S, s, q => mkS_snoc P d S s _
def mkM (nd tr : Int) (P : List Int) (S : List (Int × Int × Int)) (d : Nat) : Mk := ⟨nd, (mkS P d S (0, false)).1, tr, (mkS P d S (0, false)).2⟩
def mkD (nd tr : Int) (P : List Int) (S : List (Int × Int × Int)) (n : Nat) : List Mk := (List.range n).map (mkM nd tr P S)
theorem mkD_succ (nd tr : Int) (P : List Int) (S : List (Int × Int × Int)) (n : Nat) : mkD nd tr P S (n + 1) = mkD nd tr P S n ++ [mkM nd tr P S n] := by
 unfold mkD; rw [List.range_succ, List.map_append]; rfl
theorem mkD_len (nd tr : Int) (P : List Int) (S : List (Int × Int × Int)) (n : Nat) : (mkD nd tr P S n).length = n := by simp [mkD]
structure PrcOk (P : List Int) : Prop where
 l : 1 ≤ P.length ∧ P.length ≤ 9
 b : ∀ p ∈ P, 0 ≤ p ∧ p ≤ 65535
theorem prc_ix {P : List Int} (h : PrcOk P) (t : Int) : ∃ q : Nat, (imax 0 t).tmod P.length = q ∧ q < P.length ∧ ∃ p, P[q]? = some p ∧ (0 ≤ p ∧ p ≤ 65535) ∧ prc P t = p.tmod 1001 := by
 have h1 := h.l
 have e := imax_eq 0 t
 have h2 : 0 ≤ (imax 0 t).tmod P.length ∧ (imax 0 t).tmod P.length < P.length := by
  rw [Int.tmod_eq_emod_of_nonneg (by omega)]
  exact ⟨Int.emod_nonneg _ (by omega), Int.emod_lt_of_pos _ (by omega)⟩
 obtain ⟨p, hp⟩ : ∃ p, P[((imax 0 t).tmod P.length).toNat]? = some p := ⟨_, List.getElem?_eq_getElem (by omega)⟩
 refine ⟨((imax 0 t).tmod P.length).toNat, by omega, by omega, p, hp, h.b p (List.mem_of_getElem? hp), ?_⟩
 unfold prc; rw [hp]; rfl
theorem tm1001 {p : Int} (h : 0 ≤ p) : 0 ≤ p.tmod 1001 ∧ p.tmod 1001 ≤ 1000 := by
 rw [Int.tmod_eq_emod_of_nonneg h]; omega
theorem mkS_bd {P : List Int} (h : PrcOk P) (d : Int) : ∀ (S : List (Int × Int × Int)) (q : Int × Bool), 0 ≤ q.1 ∧ q.1 ≤ 1000 → 0 ≤ (mkS P d S q).1 ∧ (mkS P d S q).1 ≤ 1000
 | [], q, hq => hq
 | s :: S, q, hq => by
  refine mkS_bd h d S _ ?_
  split
  · obtain ⟨_, _, _, p, _, h1, h2⟩ := prc_ix h s.1
    show 0 ≤ prc P s.1 ∧ prc P s.1 ≤ 1000
    rw [h2]; exact tm1001 h1.1
  · exact hq
theorem mkD_ok {P : List Int} (h : PrcOk P) {nd tr : Int} (hn : 0 ≤ nd ∧ nd ≤ 255) (ht : 0 ≤ tr ∧ tr ≤ 65535) {n K : Nat} (h1 : 1 ≤ n ∧ n ≤ 30) (hk : 1 ≤ K ∧ K ≤ 10) (S : List (Int × Int × Int)) : RoadOk (mkD nd tr P S n) K := by
 refine ⟨by rw [mkD_len]; exact h1, hk, fun m hm => ?_⟩
 obtain ⟨d, _, rfl⟩ := List.mem_map.1 hm
 exact ⟨by show 0 ≤ nd ∧ nd ≤ 10000; omega, mkS_bd h d S (0, false) (by decide), by show 0 ≤ tr ∧ tr ≤ 100000; omega⟩
set_option maxHeartbeats 4000000 in
set_option maxRecDepth 100000 in
theorem market_ok (n K : Nat) (so : Option Addr) (sc : Nat) (S : List (Int × Int × Int)) (nd tr : Int) (po : Option Addr) (pc : Nat) (P : List Int) (w : World) (hS : Rd 3 spF (.slice so S.length sc) S w) (hPr : Rd 1 uF (.slice po P.length pc) P w) (hP : PrcOk P) (hn : 0 ≤ nd ∧ nd ≤ 255) (ht : 0 ≤ tr ∧ tr ≤ 65535) (h1 : 1 ≤ n ∧ n ≤ 30) (hsl : S.length ≤ 1000) :
 Calls Try.prog 53 #[iv n, .slice so S.length sc, .int .u8 nd, .slice po P.length pc, .int .u16 tr, iv K] w fun e w' => ∃ y : Addr × Nat, e = .returned (rdV (some y.1) n y.2 K) ∧ Below w.heap.size w w' ∧ St w.heap.size (RdR (some y.1) y.2 (mkD nd tr P S n)) w' := by
 have hpl := hP.l
 refine calls_fam env mixed Try.func53 has53 Try.ntmps53 [iv n, .slice so S.length sc, .int .u8 nd, .slice po P.length pc, .int .u16 tr, iv K] (by simp) ?_
 repeat'
  conv => whnf
  first
   | refine zA ?_ | refine zB ?_ | refine zC ?_ | refine zD ?_ | refine zE ?_ | refine zF ?_ | refine zG ?_ | refine zH ?_ | refine zJ ?_ | refine zI ?_ | refine splT ?_ | refine splF ?_ | refine splNot ?_
   | ((first | refine splIn ?_ ?_ | refine splD ?_ ?_ | refine splE ?_ ?_ | refine splNE ?_ ?_) <;> intro hc <;> first | (exfalso; omega) | (exfalso; dsimp only at hc; omega) | skip)
 all_goals first | (exfalso; omega) | skip
 refine loopN 4 (fun d : Nat => [(0, .v (iv n)), (1, .v (.slice so S.length sc)), (2, .v (.int .u8 nd)), (3, .v (.slice po P.length pc)), (4, .v (.int .u16 tr)), (12, .ptr 0 0), (13, .ptr 1 0), (14, .v (iv d))]) (fun d => (0, .cells [.v (.slice none 0 0), .v (iv 0)] 107) :: (1, .cells [oSV 2 3 (mkD nd tr P S d), .v (iv K)] 107) :: oM 2 3 4 mkF 158 (mkD nd tr P S d)) (fun d => d ≤ n) (fun d => n - d) 0 (Nat.zero_le _) ⟨rfl, rfl, rfl, rfl, rfl, rfl, rfl, rfl, trivial⟩ ⟨rfl, rfl, trivial⟩ (fun d _ => by cases mkD nd tr P S d <;> exact ⟨rfl, rfl⟩) ?_
 intro d hd
 rcases Nat.lt_or_ge d n with hdl | hdl
 · have hD1 := mkD_succ nd tr P S d
   have hDl := mkD_len nd tr P S d
   unfold mkM at hD1
   generalize mkD nd tr P S d = D at *
   cases D with
   | nil =>
    repeat'
     conv => whnf
     first
      | refine zA ?_ | refine zB ?_ | refine zC ?_ | refine zD ?_ | refine zE ?_ | refine zF ?_ | refine zG ?_ | refine zH ?_ | refine zJ ?_ | refine zI ?_ | refine splT ?_ | refine splF ?_ | refine splNot ?_
      | ((first | refine splIn ?_ ?_ | refine splD ?_ ?_ | refine splE ?_ ?_ | refine splNE ?_ ?_) <;> intro hc <;> first | (exfalso; omega) | (exfalso; dsimp only at hc; omega) | skip)
      | refine cvE5 (by omega) ?_
      | refine cvE52 (by omega) ?_
    all_goals first | (exfalso; omega) | skip
    refine loopN 5 (fun i : Nat => [(0, .v (iv n)), (1, .v (.slice so S.length sc)), (2, .v (.int .u8 nd)), (3, .v (.slice po P.length pc)), (4, .v (.int .u16 tr)), (12, .ptr 0 0), (13, .ptr 1 0), (14, .v (iv d)), (15, .ptr 4 0), (16, .v (iv i))]) (fun i => [(0, .cells [.v (.slice none 0 0), .v (iv 0)] 107), (1, .cells [.v (.slice none 0 0), .v (iv K)] 107), (4, .cells [.v (iv nd), .v (iv (mkS P d (S.take i) (0, false)).1), .v (iv tr), .v (.bool (mkS P d (S.take i) (0, false)).2)] 158)]) (fun i => i ≤ S.length) (fun i => S.length - i) 0 (Nat.zero_le _) ⟨rfl, rfl, rfl, rfl, rfl, rfl, rfl, rfl, rfl, rfl, trivial⟩ ⟨rfl, rfl, rfl, trivial⟩ (fun _ _ => ⟨rfl, rfl⟩) ?_
    intro i hi
    rcases Nat.lt_or_ge i S.length with hil | hil
    · obtain ⟨⟨tn, f, l⟩, hs⟩ : ∃ s, S[i]? = some s := ⟨_, List.getElem?_eq_getElem hil⟩
      obtain ⟨_, aS, rfl, _⟩ := hS.ptr (by omega)
      obtain ⟨_, ap, rfl, _⟩ := hPr.ptr (by omega)
      have e0 := fun (w' : World) hw' => rd_fld (hS.below (w' := w') hw') hs 0 (iv tn) rfl
      have e1 := fun (w' : World) hw' => rd_fld (hS.below (w' := w') hw') hs 1 (iv f) rfl
      have e2 := fun (w' : World) hw' => rd_fld (hS.below (w' := w') hw') hs 2 (iv l) rfl
      obtain ⟨q, hq, hql, p, hp, hpb, hpr⟩ := prc_ix hP tn
      have e3 := fun (w' : World) hw' => rd_ati (hPr.below (w' := w') hw') hp
      have ht : mkS P d (S.take (i + 1)) (0, false) = if f ≤ (d : Int) ∧ (d : Int) ≤ l then (prc P tn, true) else mkS P d (S.take i) (0, false) := by
       rw [List.take_add_one, hs]
       exact mkS_snoc P d (S.take i) (tn, f, l) (0, false)
      rw [hpr] at ht
      have hp1 := tm1001 hpb.1
      generalize hr : p.tmod 1001 = r at *
      generalize hm : mkS P d (S.take i) (0, false) = mm at *
      by_cases hin : f ≤ (d : Int) ∧ (d : Int) ≤ l
      · rw [if_pos hin] at ht
        repeat'
         conv => whnf
         first
          | refine zA ?_ | refine zB ?_ | refine zC ?_ | refine zD ?_ | refine zE ?_ | refine zF ?_ | refine zG ?_ | refine zH ?_ | refine zJ ?_ | refine zI ?_ | refine splT ?_ | refine splF ?_ | refine splNot ?_
          | ((first | refine splIn ?_ ?_ | refine splD ?_ ?_ | refine splE ?_ ?_ | refine splNE ?_ ?_) <;> intro hc <;> first | (exfalso; omega) | (exfalso; dsimp only at hc; omega) | skip)
          | refine cvE52 (by omega) ?_
          | refine Exists.intro (α := List Value) [iv f] ⟨⟨rfl, fun w' hw' => e1 w' hw'⟩, ?_⟩
          | refine Exists.intro (α := List Value) [iv l] ⟨⟨rfl, fun w' hw' => e2 w' hw'⟩, ?_⟩
          | refine Exists.intro (α := List Value) [iv tn] ⟨⟨rfl, fun w' hw' => e0 w' hw'⟩, ?_⟩
          | refine Exists.intro (α := Int) (q : Int) ⟨⟨by omega, hq⟩, ?_⟩
          | refine Exists.intro (α := List Value) [.int .u16 p] ⟨⟨rfl, fun w' hw' => e3 w' hw'⟩, ?_⟩
          | refine Exists.intro (α := Int) r ⟨⟨by decide, hr⟩, ?_⟩
        all_goals first | (exfalso; omega) | exact ⟨i + 1, by omega, by omega, Ent.weak rfl ⟨rfl, rfl, rfl, rfl, rfl, rfl, rfl, rfl, rfl, rfl, trivial⟩ ⟨rfl, rfl, by rw [ht]; rfl, trivial⟩ fun _ h => h⟩
      · rw [if_neg hin] at ht
        repeat'
         conv => whnf
         first
          | refine zA ?_ | refine zB ?_ | refine zC ?_ | refine zD ?_ | refine zE ?_ | refine zF ?_ | refine zG ?_ | refine zH ?_ | refine zJ ?_ | refine zI ?_ | refine splT ?_ | refine splF ?_ | refine splNot ?_
          | ((first | refine splIn ?_ ?_ | refine splD ?_ ?_ | refine splE ?_ ?_ | refine splNE ?_ ?_) <;> intro hc <;> first | (exfalso; omega) | (exfalso; dsimp only at hc; omega) | skip)
          | refine cvE52 (by omega) ?_
          | refine Exists.intro (α := List Value) [iv f] ⟨⟨rfl, fun w' hw' => e1 w' hw'⟩, ?_⟩
          | refine Exists.intro (α := List Value) [iv l] ⟨⟨rfl, fun w' hw' => e2 w' hw'⟩, ?_⟩
        all_goals first | (exfalso; omega) | exact ⟨i + 1, by omega, by omega, Ent.weak rfl ⟨rfl, rfl, rfl, rfl, rfl, rfl, rfl, rfl, rfl, rfl, trivial⟩ ⟨rfl, rfl, by rw [ht]; rfl, trivial⟩ fun _ h => h⟩
    · rw [List.take_of_length_le hil]
      generalize hm : mkS P d S (0, false) = mm at *
      repeat'
       conv => whnf
       first
        | refine zA ?_ | refine zB ?_ | refine zC ?_ | refine zD ?_ | refine zE ?_ | refine zF ?_ | refine zG ?_ | refine zH ?_ | refine zJ ?_ | refine zI ?_ | refine splT ?_ | refine splF ?_ | refine splNot ?_
        | ((first | refine splIn ?_ ?_ | refine splD ?_ ?_ | refine splE ?_ ?_ | refine splNE ?_ ?_) <;> intro hc <;> first | (exfalso; omega) | (exfalso; dsimp only at hc; omega) | skip)
      all_goals first | (exfalso; omega) | exact ⟨d + 1, by omega, by omega, Ent.ren (rho [(2, 6), (3, 7)]) rfl (by rw [hD1]; rfl) ⟨rfl, rfl, rfl, rfl, rfl, rfl, rfl, rfl, trivial⟩ (by rw [hD1]; exact ⟨rfl, rfl, rfl, trivial⟩) fun _ h => h⟩
   | cons a D =>
    simp only [List.length_cons] at hDl
    repeat'
     conv => whnf
     first
      | refine zA ?_ | refine zB ?_ | refine zC ?_ | refine zD ?_ | refine zE ?_ | refine zF ?_ | refine zG ?_ | refine zH ?_ | refine zJ ?_ | refine zI ?_ | refine splT ?_ | refine splF ?_ | refine splNot ?_
      | ((first | refine splIn ?_ ?_ | refine splD ?_ ?_ | refine splE ?_ ?_ | refine splNE ?_ ?_) <;> intro hc <;> first | (exfalso; omega) | (exfalso; dsimp only at hc; omega) | skip)
      | refine cvE5 (by omega) ?_
      | refine cvE52 (by omega) ?_
    all_goals first | (exfalso; omega) | skip
    refine loopN 5 (fun i : Nat => [(0, .v (iv n)), (1, .v (.slice so S.length sc)), (2, .v (.int .u8 nd)), (3, .v (.slice po P.length pc)), (4, .v (.int .u16 tr)), (12, .ptr 0 0), (13, .ptr 1 0), (14, .v (iv d)), (15, .ptr 4 0), (16, .v (iv i))]) (fun i => [(0, .cells [.v (.slice none 0 0), .v (iv 0)] 107), (1, .cells [.os 2 3 (D.length + 1), .v (iv K)] 107), (2, .own 3 (D.length + 1) 4 ((a :: D).flatMap mkF) 158), (4, .cells [.v (iv nd), .v (iv (mkS P d (S.take i) (0, false)).1), .v (iv tr), .v (.bool (mkS P d (S.take i) (0, false)).2)] 158)]) (fun i => i ≤ S.length) (fun i => S.length - i) 0 (Nat.zero_le _) ⟨rfl, rfl, rfl, rfl, rfl, rfl, rfl, rfl, rfl, rfl, trivial⟩ ⟨rfl, rfl, rfl, rfl, trivial⟩ (fun _ _ => ⟨rfl, rfl⟩) ?_
    intro i hi
    rcases Nat.lt_or_ge i S.length with hil | hil
    · obtain ⟨⟨tn, f, l⟩, hs⟩ : ∃ s, S[i]? = some s := ⟨_, List.getElem?_eq_getElem hil⟩
      obtain ⟨_, aS, rfl, _⟩ := hS.ptr (by omega)
      obtain ⟨_, ap, rfl, _⟩ := hPr.ptr (by omega)
      have e0 := fun (w' : World) hw' => rd_fld (hS.below (w' := w') hw') hs 0 (iv tn) rfl
      have e1 := fun (w' : World) hw' => rd_fld (hS.below (w' := w') hw') hs 1 (iv f) rfl
      have e2 := fun (w' : World) hw' => rd_fld (hS.below (w' := w') hw') hs 2 (iv l) rfl
      obtain ⟨q, hq, hql, p, hp, hpb, hpr⟩ := prc_ix hP tn
      have e3 := fun (w' : World) hw' => rd_ati (hPr.below (w' := w') hw') hp
      have ht : mkS P d (S.take (i + 1)) (0, false) = if f ≤ (d : Int) ∧ (d : Int) ≤ l then (prc P tn, true) else mkS P d (S.take i) (0, false) := by
       rw [List.take_add_one, hs]
       exact mkS_snoc P d (S.take i) (tn, f, l) (0, false)
      rw [hpr] at ht
      have hp1 := tm1001 hpb.1
      generalize hr : p.tmod 1001 = r at *
      generalize hm : mkS P d (S.take i) (0, false) = mm at *
      by_cases hin : f ≤ (d : Int) ∧ (d : Int) ≤ l
      · rw [if_pos hin] at ht
        repeat'
         conv => whnf
         first
          | refine zA ?_ | refine zB ?_ | refine zC ?_ | refine zD ?_ | refine zE ?_ | refine zF ?_ | refine zG ?_ | refine zH ?_ | refine zJ ?_ | refine zI ?_ | refine splT ?_ | refine splF ?_ | refine splNot ?_
          | ((first | refine splIn ?_ ?_ | refine splD ?_ ?_ | refine splE ?_ ?_ | refine splNE ?_ ?_) <;> intro hc <;> first | (exfalso; omega) | (exfalso; dsimp only at hc; omega) | skip)
          | refine cvE52 (by omega) ?_
          | refine Exists.intro (α := List Value) [iv f] ⟨⟨rfl, fun w' hw' => e1 w' hw'⟩, ?_⟩
          | refine Exists.intro (α := List Value) [iv l] ⟨⟨rfl, fun w' hw' => e2 w' hw'⟩, ?_⟩
          | refine Exists.intro (α := List Value) [iv tn] ⟨⟨rfl, fun w' hw' => e0 w' hw'⟩, ?_⟩
          | refine Exists.intro (α := Int) (q : Int) ⟨⟨by omega, hq⟩, ?_⟩
          | refine Exists.intro (α := List Value) [.int .u16 p] ⟨⟨rfl, fun w' hw' => e3 w' hw'⟩, ?_⟩
          | refine Exists.intro (α := Int) r ⟨⟨by decide, hr⟩, ?_⟩
        all_goals first | (exfalso; omega) | exact ⟨i + 1, by omega, by omega, Ent.weak rfl ⟨rfl, rfl, rfl, rfl, rfl, rfl, rfl, rfl, rfl, rfl, trivial⟩ ⟨rfl, rfl, rfl, by rw [ht]; rfl, trivial⟩ fun _ h => h⟩
      · rw [if_neg hin] at ht
        repeat'
         conv => whnf
         first
          | refine zA ?_ | refine zB ?_ | refine zC ?_ | refine zD ?_ | refine zE ?_ | refine zF ?_ | refine zG ?_ | refine zH ?_ | refine zJ ?_ | refine zI ?_ | refine splT ?_ | refine splF ?_ | refine splNot ?_
          | ((first | refine splIn ?_ ?_ | refine splD ?_ ?_ | refine splE ?_ ?_ | refine splNE ?_ ?_) <;> intro hc <;> first | (exfalso; omega) | (exfalso; dsimp only at hc; omega) | skip)
          | refine cvE52 (by omega) ?_
          | refine Exists.intro (α := List Value) [iv f] ⟨⟨rfl, fun w' hw' => e1 w' hw'⟩, ?_⟩
          | refine Exists.intro (α := List Value) [iv l] ⟨⟨rfl, fun w' hw' => e2 w' hw'⟩, ?_⟩
        all_goals first | (exfalso; omega) | exact ⟨i + 1, by omega, by omega, Ent.weak rfl ⟨rfl, rfl, rfl, rfl, rfl, rfl, rfl, rfl, rfl, rfl, trivial⟩ ⟨rfl, rfl, rfl, by rw [ht]; rfl, trivial⟩ fun _ h => h⟩
    · rw [List.take_of_length_le hil]
      generalize hm : mkS P d S (0, false) = mm at *
      repeat'
       conv => whnf
       first
        | refine zA ?_ | refine zB ?_ | refine zC ?_ | refine zD ?_ | refine zE ?_ | refine zF ?_ | refine zG ?_ | refine zH ?_ | refine zJ ?_ | refine zI ?_ | refine splT ?_ | refine splF ?_ | refine splNot ?_
        | ((first | refine splIn ?_ ?_ | refine splD ?_ ?_ | refine splE ?_ ?_ | refine splNE ?_ ?_) <;> intro hc <;> first | (exfalso; omega) | (exfalso; dsimp only at hc; omega) | skip)
      all_goals first | (exfalso; omega) | exact ⟨d + 1, by omega, by omega, Ent.ren (rho [(2, 6), (3, 7)]) rfl (by rw [hD1]; rfl) ⟨rfl, rfl, rfl, rfl, rfl, rfl, rfl, rfl, trivial⟩ (by rw [hD1]; exact ⟨rfl, by simp [oSV]; rfl, by simp [oM]; rfl, trivial⟩) fun _ h => h⟩
 · obtain rfl : d = n := by omega
   have hDl := mkD_len nd tr P S d
   generalize mkD nd tr P S d = D at *
   cases D with
   | nil => simp at hDl; omega
   | cons a D =>
    simp only [List.length_cons] at hDl
    have hDl2 : (a :: D).length = d := hDl
    repeat'
     conv => whnf
     first
      | refine zA ?_ | refine zB ?_ | refine zC ?_ | refine zD ?_ | refine zE ?_ | refine zF ?_ | refine zG ?_ | refine zH ?_ | refine zJ ?_ | refine zI ?_ | refine splT ?_ | refine splF ?_ | refine splNot ?_
      | ((first | refine splIn ?_ ?_ | refine splD ?_ ?_ | refine splE ?_ ?_ | refine splNE ?_ ?_) <;> intro hc <;> first | (exfalso; omega) | (exfalso; dsimp only at hc; omega) | skip)
    all_goals first | (exfalso; omega) | exact ⟨fun w' h => h, fun β w' hB hblk => ⟨(⟨β 2, 0, none⟩, β 3), by rw [← hDl]; rfl, fun w2 k2 => ⟨Rd.of_owns (sz := 4) (f := mkF) (fun _ => rfl) rfl rfl (hblk 2 _ rfl rfl w2 k2), own_cap (hblk 2 _ rfl rfl w2 k2)⟩⟩⟩
end Go.Proofs.Ythfabodamhdhaaa
namespace Go.Proofs.Ythfabodamhdhaaa
open Go Tx Go.RowKit
set_option linter.unusedSimpArgs false
set_option linter.unusedVariables false
abbrev SlT (n : Nat) := {y : Option Addr × Nat // (n = 0 ∧ y = (none, 0)) ∨ (∃ a, y.1 = some a) ∧ n ≤ y.2}
set_option maxHeartbeats 4000000 in
set_option maxRecDepth 100000 in
theorem BestC_ok (x : Tr) (w : World) (h : TrIn x w) :
 Calls Try.prog 20 #[x.v] w fun e w' => ∃ y : SlT (bsV x.d).1.length, e = .returned (.tuple #[sV (bsV x.d).1.length y.1, iv (bsV x.d).2.1, iv (bsV x.d).2.2]) ∧ Below w.heap.size w w' ∧ St w.heap.size (Rd 3 spF (sV (bsV x.d).1.length y.1) (bsV x.d).1) w' := by
 have hv := fun w' hb => valid_ok x w' (h.below hb)
 refine calls_fam env mixed Try.func20 has20 Try.ntmps20 [.agg #[iv x.days, iv x.shift, iv x.size, .slice x.to x.T.length x.tc, .slice x.lo x.L.length x.lc]] (by simp) ?_
 unfold bsV
 cases hb : toB x.d with
 | false =>
  rw [hb] at hv
  clear h hb
  obtain ⟨days, shift, size, to, tc, T, lo, lc, L⟩ := x
  repeat'
   conv => whnf
   first
    | refine zA ?_ | refine zB ?_ | refine zC ?_ | refine zD ?_ | refine zE ?_ | refine zF ?_ | refine zG ?_ | refine zH ?_ | refine zJ ?_ | refine zI ?_ | refine splT ?_ | refine splF ?_ | refine splNot ?_
    | ((first | refine splIn ?_ ?_ | refine splD ?_ ?_ | refine splE ?_ ?_ | refine splNE ?_ ?_) <;> intro hc <;> first | (exfalso; omega) | (exfalso; dsimp only at hc; omega) | skip)
    | ((with_reducible show CallEv _ _ 56 _ _ _ _ _); refine callE (k := 56) (fun β w' hbw => hv w' hbw) ?_)
  exact ⟨fun w' h => h, fun β w' hB hblk => ⟨⟨(none, 0), .inl ⟨rfl, rfl⟩⟩, rfl, fun _ _ => .inl ⟨rfl, rfl⟩⟩⟩
 | true =>
  rw [hb] at hv
  have hn := toB_n hb
  have hpl := fun β w' hb => plan_F x w' (h.below hb) hn β
  rw [if_pos rfl]
  dsimp only
  obtain ⟨days, shift, size, to, tc, T, lo, lc, L⟩ := x
  have hnT := hn.n
  simp only [Tr.d, List.length_map] at hnT
  have hH : ∀ p : Alp × Nat × Nat × Nat × Nat, p.2.1 = T.length → HomeC ⟨days, shift, size, to, tc, T, lo, lc, L⟩ (ALO (Tr.d ⟨days, shift, size, to, tc, T, lo, lc, L⟩)) p.1 p.2.1 p.2.2.1 p.2.2.2.1 p.2.2.2.2 0 0 0 := fun p hp => (plan_all (x := ⟨days, shift, size, to, tc, T, lo, lc, L⟩) (AL := ALO (Tr.d ⟨days, shift, size, to, tc, T, lo, lc, L⟩)) hp hn (ALO_ok hn) (ALO_len hn) _ 0 (by decide) rfl).1 0 0 (by show 0 < T.length; omega) (by decide)
  have hPp : ∀ (p : Alp × Nat × Nat × Nat × Nat) w2, (Below w.heap.size w w2 ∧ p.2.1 = T.length ∧ AlIn (Tr.d ⟨days, shift, size, to, tc, T, lo, lc, L⟩) (ALO (Tr.d ⟨days, shift, size, to, tc, T, lo, lc, L⟩)) p.1 w2) → Hp ⟨days, shift, size, to, tc, T, lo, lc, L⟩ (ALO (Tr.d ⟨days, shift, size, to, tc, T, lo, lc, L⟩)) p.1 w2 := fun p w2 hh => ⟨h.below hh.1, hh.2.2⟩
  have hm1 : ∀ (p : Alp × Nat × Nat × Nat × Nat) i b, lk (MB1 ⟨days, shift, size, to, tc, T, lo, lc, L⟩ (ALO (Tr.d ⟨days, shift, size, to, tc, T, lo, lc, L⟩)) p.1 p.2.1 p.2.2.1 p.2.2.2.1 p.2.2.2.2) i = some b → 1 ≤ i ∧ i < 1 + 6 ∧ b.lt (1 + 6) = true ∧ b.live = true := fun p i b hi => by
   have hm := lk_mem hi
   simp only [MB1, List.mem_cons, Prod.mk.injEq, List.not_mem_nil, or_false] at hm
   rcases hm with ⟨rfl, rfl⟩ | ⟨rfl, rfl⟩ | ⟨rfl, rfl⟩ | ⟨rfl, rfl⟩ | ⟨rfl, rfl⟩ | ⟨rfl, rfl⟩ <;> exact ⟨by decide, by decide, rfl, rfl⟩
  repeat'
   conv => whnf
   first
    | refine zA ?_ | refine zB ?_ | refine zC ?_ | refine zD ?_ | refine zE ?_ | refine zF ?_ | refine zG ?_ | refine zH ?_ | refine zJ ?_ | refine zI ?_ | refine splT ?_ | refine splF ?_ | refine splNot ?_
    | ((first | refine splIn ?_ ?_ | refine splD ?_ ?_ | refine splE ?_ ?_ | refine splNE ?_ ?_) <;> intro hc <;> first | (exfalso; omega) | (exfalso; dsimp only at hc; omega) | skip)
    | ((with_reducible show CallEv _ _ 56 _ _ _ _ _); refine callE (k := 56) (fun β w' hbw => hv w' hbw) ?_)
    | ((with_reducible show CallEv _ _ 57 _ _ _ _ _); refine callFR [] 6 (.ptr 3 0) (fun p : Alp × Nat × Nat × Nat × Nat => MB1 ⟨days, shift, size, to, tc, T, lo, lc, L⟩ (ALO (Tr.d ⟨days, shift, size, to, tc, T, lo, lc, L⟩)) p.1 p.2.1 p.2.2.1 p.2.2.2.1 p.2.2.2.2) (fun p w2 => p.2.1 = T.length ∧ AlIn (Tr.d ⟨days, shift, size, to, tc, T, lo, lc, L⟩) (ALO (Tr.d ⟨days, shift, size, to, tc, T, lo, lc, L⟩)) p.1 w2) hm1 rfl (fun β w' _ hbw => hpl β w' hbw) ?_; intro p)
  repeat'
   conv => whnf
   first
    | refine zA ?_ | refine zB ?_ | refine zC ?_ | refine zD ?_ | refine zE ?_ | refine zF ?_ | refine zG ?_ | refine zH ?_ | refine zJ ?_ | refine zI ?_ | refine splT ?_ | refine splF ?_ | refine splNot ?_
    | ((first | refine splIn ?_ ?_ | refine splD ?_ ?_ | refine splE ?_ ?_ | refine splNE ?_ ?_) <;> intro hc <;> first | (exfalso; omega) | (exfalso; dsimp only at hc; omega) | skip)
    | refine nilE rfl rfl ?_
    | ((with_reducible show CallEv _ _ 97 _ _ _ _ _); refine callWR [1, 2, 3, 4, 5, 6] [(5, .obj p.2.2.2.1 (MpOk Try.prog 118 (stD (hmO (Tr.d ⟨days, shift, size, to, tc, T, lo, lc, L⟩) (ALO (Tr.d ⟨days, shift, size, to, tc, T, lo, lc, L⟩)))))), (6, .obj p.2.2.2.2 (MpOk Try.prog 118 (stD (bgO (Tr.d ⟨days, shift, size, to, tc, T, lo, lc, L⟩) (ALO (Tr.d ⟨days, shift, size, to, tc, T, lo, lc, L⟩))))))] (iv (hmO (Tr.d ⟨days, shift, size, to, tc, T, lo, lc, L⟩) (ALO (Tr.d ⟨days, shift, size, to, tc, T, lo, lc, L⟩)) 0 0 0)) rfl (fun β w' h1 h2 hs2 => (hH p (hs2 w' (Chg.refl _ _)).2.1 (fun i => β (i + 1)) w' (PS.of1 (x := ⟨days, shift, size, to, tc, T, lo, lc, L⟩) (AL := ALO (Tr.d ⟨days, shift, size, to, tc, T, lo, lc, L⟩)) (aa := p.1) (an := p.2.1) (ac := p.2.2.1) (b1 := p.2.2.2.1) (b2 := p.2.2.2.2) (lk6 rfl rfl rfl rfl rfl rfl) h1 h2) (fun w2 hc => hPp p w2 (hs2 w2 (chg_six1 (x := ⟨days, shift, size, to, tc, T, lo, lc, L⟩) (AL := ALO (Tr.d ⟨days, shift, size, to, tc, T, lo, lc, L⟩)) (aa := p.1) (an := p.2.1) (ac := p.2.2.1) (b1 := p.2.2.2.1) (b2 := p.2.2.2.2) (lk6 rfl rfl rfl rfl rfl rfl) hc)))).mono fun e w2 ⟨e1, e2, e3⟩ => ⟨e1, (PS.of1 (x := ⟨days, shift, size, to, tc, T, lo, lc, L⟩) (AL := ALO (Tr.d ⟨days, shift, size, to, tc, T, lo, lc, L⟩)) (aa := p.1) (an := p.2.1) (ac := p.2.2.1) (b1 := p.2.2.2.1) (b2 := p.2.2.2.2) (lk6 rfl rfl rfl rfl rfl rfl) h1 h2).chg1 e2, e3.out1⟩) ?_)
  refine loopN 10 (fun y : Nat × Nat × Nat × Nat × List (Int × Int × Int) => [(2, oSV 8 9 y.2.2.2.2), (3, .v (iv (hmO (Tr.d ⟨days, shift, size, to, tc, T, lo, lc, L⟩) (ALO (Tr.d ⟨days, shift, size, to, tc, T, lo, lc, L⟩)) 0 0 0))), (4, .v (iv 0)), (5, .ptr 3 0), (6, .ptr 7 0)]) (fun y => (0, .cells [.v (iv days), .v (iv shift), .v (iv size), .v (.slice to T.length tc), .v (.slice lo L.length lc)] 35) :: (5, .obj p.2.2.2.1 (MpOk Try.prog 118 (stD (hmO (Tr.d ⟨days, shift, size, to, tc, T, lo, lc, L⟩) (ALO (Tr.d ⟨days, shift, size, to, tc, T, lo, lc, L⟩)))))) :: (6, .obj p.2.2.2.2 (MpOk Try.prog 118 (stD (bgO (Tr.d ⟨days, shift, size, to, tc, T, lo, lc, L⟩) (ALO (Tr.d ⟨days, shift, size, to, tc, T, lo, lc, L⟩)))))) :: (1, .cells [.ptr 3 0] 114) :: (2, .cells [.v (.map (some p.2.2.2.1))] 169) :: (3, .cells [.v (iv days), .v (iv shift), .v (iv size), .v (.slice to T.length tc), .v (.slice lo L.length lc), .v (.slice (some p.1.aa) p.2.1 p.2.2.1), .fn (.func 97) [.ptr 2 0, .ptr 1 0], .fn (.func 100) [.ptr 1 0, .ptr 4 0]] 122) :: (4, .cells [.v (.map (some p.2.2.2.2))] 169) :: (7, .cells [.v (.int .u64 y.1), .v (iv y.2.1), .v (iv y.2.2.1)] 118) :: oM 8 9 3 spF 96 y.2.2.2.2)
   (fun y => (y.1 < 512 ∧ y.2.1 < T.length ∧ y.2.2.1 ≤ 100) ∧ unp (T.length - 1) y.1 < y.2.2.2.1 ∧ y.2.2.2.2.length + y.2.2.2.1 ≤ T.length ∧ y.2.2.2.2 ++ seqO (Tr.d ⟨days, shift, size, to, tc, T, lo, lc, L⟩) y.2.2.2.1 y.1 y.2.1 y.2.2.1 = bsS (Tr.d ⟨days, shift, size, to, tc, T, lo, lc, L⟩)) (fun y => y.2.2.2.1) (0, 0, 0, T.length, []) ⟨⟨by show 0 < 512; decide, by show 0 < T.length; omega, by show 0 ≤ 100; decide⟩, by show unp (T.length - 1) 0 < T.length; have := unp_le (T.length - 1) 0; omega, by show 0 + T.length ≤ T.length; omega, by unfold bsS; rw [show (Tr.d ⟨days, shift, size, to, tc, T, lo, lc, L⟩).T.length = T.length from List.length_map ..]; rfl⟩ ⟨rfl, rfl, rfl, rfl, rfl, trivial⟩ ⟨rfl, rfl, rfl, rfl, rfl, rfl, rfl, rfl, trivial⟩ (fun y _ => by cases y.2.2.2.2 <;> exact ⟨rfl, rfl⟩) ?_
  rintro ⟨S, a, d, k, C⟩ ⟨⟨hS, ha, hd⟩, hk, hl, hC⟩
  dsimp only at hS ha hd hk hl hC ⊢
  have h58 := fun (p : Alp × Nat × Nat × Nat × Nat) (hp : p.2.1 = T.length) β w' h1 h2 => step_ok ⟨days, shift, size, to, tc, T, lo, lc, L⟩ p.1 p.2.1 p.2.2.1 p.2.2.2.1 p.2.2.2.2 S a d hp hn hS ha hd β w' h1 h2
  obtain ⟨k, rfl⟩ : ∃ k', k = k' + 1 := ⟨k - 1, by omega⟩
  have hseq : seqO (Tr.d ⟨days, shift, size, to, tc, T, lo, lc, L⟩) (k + 1) S a d = match spO (Tr.d ⟨days, shift, size, to, tc, T, lo, lc, L⟩) S a d with | some (t, f, l) => ((t : Int), (f : Int), (l : Int)) :: seqO (Tr.d ⟨days, shift, size, to, tc, T, lo, lc, L⟩) k (S ||| 2 ^ t) t (l + 1) | none => [] := rfl
  cases hsp : spO (Tr.d ⟨days, shift, size, to, tc, T, lo, lc, L⟩) S a d with
  | none =>
   rw [hsp] at h58 hseq
   rw [hseq, List.append_nil] at hC
   rw [← hC]
   cases C with
   | nil =>
    repeat'
     conv => whnf
     first
      | refine zA ?_ | refine zB ?_ | refine zC ?_ | refine zD ?_ | refine zE ?_ | refine zF ?_ | refine zG ?_ | refine zH ?_ | refine zJ ?_ | refine zI ?_ | refine splT ?_ | refine splF ?_ | refine splNot ?_
      | ((first | refine splIn ?_ ?_ | refine splD ?_ ?_ | refine splE ?_ ?_ | refine splNE ?_ ?_) <;> intro hc <;> first | (exfalso; omega) | (exfalso; dsimp only at hc; omega) | skip)
      | ((with_reducible show CallEv _ _ 58 _ _ _ _ _); refine callWR [1, 2, 3, 4, 5, 6] [(5, .obj p.2.2.2.1 (MpOk Try.prog 118 (stD (hmO (Tr.d ⟨days, shift, size, to, tc, T, lo, lc, L⟩) (ALO (Tr.d ⟨days, shift, size, to, tc, T, lo, lc, L⟩)))))), (6, .obj p.2.2.2.2 (MpOk Try.prog 118 (stD (bgO (Tr.d ⟨days, shift, size, to, tc, T, lo, lc, L⟩) (ALO (Tr.d ⟨days, shift, size, to, tc, T, lo, lc, L⟩))))))] (spV none) rfl (fun β w' h1 h2 hs2 => (h58 p (hs2 w' (Chg.refl _ _)).2.1 (fun i => β (i + 1)) w' (PS.of1 (x := ⟨days, shift, size, to, tc, T, lo, lc, L⟩) (AL := ALO (Tr.d ⟨days, shift, size, to, tc, T, lo, lc, L⟩)) (aa := p.1) (an := p.2.1) (ac := p.2.2.1) (b1 := p.2.2.2.1) (b2 := p.2.2.2.2) (lk6 rfl rfl rfl rfl rfl rfl) h1 h2) (fun w2 hc => hPp p w2 (hs2 w2 (chg_six1 (x := ⟨days, shift, size, to, tc, T, lo, lc, L⟩) (AL := ALO (Tr.d ⟨days, shift, size, to, tc, T, lo, lc, L⟩)) (aa := p.1) (an := p.2.1) (ac := p.2.2.1) (b1 := p.2.2.2.1) (b2 := p.2.2.2.2) (lk6 rfl rfl rfl rfl rfl rfl) hc)))).mono fun e w2 ⟨e1, e2, e3⟩ => ⟨e1, (PS.of1 (x := ⟨days, shift, size, to, tc, T, lo, lc, L⟩) (AL := ALO (Tr.d ⟨days, shift, size, to, tc, T, lo, lc, L⟩)) (aa := p.1) (an := p.2.1) (ac := p.2.2.1) (b1 := p.2.2.2.1) (b2 := p.2.2.2.2) (lk6 rfl rfl rfl rfl rfl rfl) h1 h2).chg1 e2, e3.out1⟩) ?_)
    exact ⟨fun w' h => h.1, fun β w' hB hblk => ⟨⟨(none, 0), .inl ⟨rfl, rfl⟩⟩, rfl, fun _ _ => .inl ⟨rfl, rfl⟩⟩⟩
   | cons c C =>
    repeat'
     conv => whnf
     first
      | refine zA ?_ | refine zB ?_ | refine zC ?_ | refine zD ?_ | refine zE ?_ | refine zF ?_ | refine zG ?_ | refine zH ?_ | refine zJ ?_ | refine zI ?_ | refine splT ?_ | refine splF ?_ | refine splNot ?_
      | ((first | refine splIn ?_ ?_ | refine splD ?_ ?_ | refine splE ?_ ?_ | refine splNE ?_ ?_) <;> intro hc <;> first | (exfalso; omega) | (exfalso; dsimp only at hc; omega) | skip)
      | ((with_reducible show CallEv _ _ 58 _ _ _ _ _); refine callWR [1, 2, 3, 4, 5, 6] [(5, .obj p.2.2.2.1 (MpOk Try.prog 118 (stD (hmO (Tr.d ⟨days, shift, size, to, tc, T, lo, lc, L⟩) (ALO (Tr.d ⟨days, shift, size, to, tc, T, lo, lc, L⟩)))))), (6, .obj p.2.2.2.2 (MpOk Try.prog 118 (stD (bgO (Tr.d ⟨days, shift, size, to, tc, T, lo, lc, L⟩) (ALO (Tr.d ⟨days, shift, size, to, tc, T, lo, lc, L⟩))))))] (spV none) rfl (fun β w' h1 h2 hs2 => (h58 p (hs2 w' (Chg.refl _ _)).2.1 (fun i => β (i + 1)) w' (PS.of1 (x := ⟨days, shift, size, to, tc, T, lo, lc, L⟩) (AL := ALO (Tr.d ⟨days, shift, size, to, tc, T, lo, lc, L⟩)) (aa := p.1) (an := p.2.1) (ac := p.2.2.1) (b1 := p.2.2.2.1) (b2 := p.2.2.2.2) (lk6 rfl rfl rfl rfl rfl rfl) h1 h2) (fun w2 hc => hPp p w2 (hs2 w2 (chg_six1 (x := ⟨days, shift, size, to, tc, T, lo, lc, L⟩) (AL := ALO (Tr.d ⟨days, shift, size, to, tc, T, lo, lc, L⟩)) (aa := p.1) (an := p.2.1) (ac := p.2.2.1) (b1 := p.2.2.2.1) (b2 := p.2.2.2.2) (lk6 rfl rfl rfl rfl rfl rfl) hc)))).mono fun e w2 ⟨e1, e2, e3⟩ => ⟨e1, (PS.of1 (x := ⟨days, shift, size, to, tc, T, lo, lc, L⟩) (AL := ALO (Tr.d ⟨days, shift, size, to, tc, T, lo, lc, L⟩)) (aa := p.1) (an := p.2.1) (ac := p.2.2.1) (b1 := p.2.2.2.1) (b2 := p.2.2.2.2) (lk6 rfl rfl rfl rfl rfl rfl) h1 h2).chg1 e2, e3.out1⟩) ?_)
    refine ⟨fun w' h => h.1, fun β w' hB hblk => ?_⟩
    exact ⟨⟨(some ⟨β 8, 0, none⟩, β 9), .inr ⟨⟨_, rfl⟩, own_cap (St.now (hblk 8 _ rfl rfl))⟩⟩, rfl, fun w2 k2 => Rd.of_owns (sz := 3) (f := spF) (fun _ => rfl) rfl rfl (hblk 8 _ rfl rfl w2 k2)⟩
  | some z =>
   obtain ⟨t, f, l⟩ := z
   rw [hsp] at h58 hseq
   have hz := spO_some hn hsp
   simp only [Tr.d, List.length_map] at hz
   have hdy := hn.d
   simp only [Tr.d] at hdy
   have hu := unp_or (n := T.length - 1) (t := t - 1) (S := S) (by omega) (by rw [show t - 1 + 1 = t from by omega]; exact hz.2.2.1)
   rw [show t - 1 + 1 = t from by omega] at hu
   have h59 := fun w' => after_ok S a d t f l w' hS (by omega) (by omega)
   have hC2 : (C ++ [((t : Int), (f : Int), (l : Int))]) ++ seqO (Tr.d ⟨days, shift, size, to, tc, T, lo, lc, L⟩) k (S ||| 2 ^ t) t (l + 1) = bsS (Tr.d ⟨days, shift, size, to, tc, T, lo, lc, L⟩) := by rw [← hC, hseq, List.append_assoc]; rfl
   have hCl : (C ++ [((t : Int), (f : Int), (l : Int))]).length + k ≤ T.length := by rw [List.length_append, List.length_singleton]; omega
   cases C with
   | nil =>
    repeat'
     conv => whnf
     first
      | refine zA ?_ | refine zB ?_ | refine zC ?_ | refine zD ?_ | refine zE ?_ | refine zF ?_ | refine zG ?_ | refine zH ?_ | refine zJ ?_ | refine zI ?_ | refine splT ?_ | refine splF ?_ | refine splNot ?_
      | ((first | refine splIn ?_ ?_ | refine splD ?_ ?_ | refine splE ?_ ?_ | refine splNE ?_ ?_) <;> intro hc <;> first | (exfalso; omega) | (exfalso; dsimp only at hc; omega) | skip)
      | ((with_reducible show CallEv _ _ 58 _ _ _ _ _); refine callWR [1, 2, 3, 4, 5, 6] [(5, .obj p.2.2.2.1 (MpOk Try.prog 118 (stD (hmO (Tr.d ⟨days, shift, size, to, tc, T, lo, lc, L⟩) (ALO (Tr.d ⟨days, shift, size, to, tc, T, lo, lc, L⟩)))))), (6, .obj p.2.2.2.2 (MpOk Try.prog 118 (stD (bgO (Tr.d ⟨days, shift, size, to, tc, T, lo, lc, L⟩) (ALO (Tr.d ⟨days, shift, size, to, tc, T, lo, lc, L⟩))))))] (spV (some (t, f, l))) rfl (fun β w' h1 h2 hs2 => (h58 p (hs2 w' (Chg.refl _ _)).2.1 (fun i => β (i + 1)) w' (PS.of1 (x := ⟨days, shift, size, to, tc, T, lo, lc, L⟩) (AL := ALO (Tr.d ⟨days, shift, size, to, tc, T, lo, lc, L⟩)) (aa := p.1) (an := p.2.1) (ac := p.2.2.1) (b1 := p.2.2.2.1) (b2 := p.2.2.2.2) (lk6 rfl rfl rfl rfl rfl rfl) h1 h2) (fun w2 hc => hPp p w2 (hs2 w2 (chg_six1 (x := ⟨days, shift, size, to, tc, T, lo, lc, L⟩) (AL := ALO (Tr.d ⟨days, shift, size, to, tc, T, lo, lc, L⟩)) (aa := p.1) (an := p.2.1) (ac := p.2.2.1) (b1 := p.2.2.2.1) (b2 := p.2.2.2.2) (lk6 rfl rfl rfl rfl rfl rfl) hc)))).mono fun e w2 ⟨e1, e2, e3⟩ => ⟨e1, (PS.of1 (x := ⟨days, shift, size, to, tc, T, lo, lc, L⟩) (AL := ALO (Tr.d ⟨days, shift, size, to, tc, T, lo, lc, L⟩)) (aa := p.1) (an := p.2.1) (ac := p.2.2.1) (b1 := p.2.2.2.1) (b2 := p.2.2.2.2) (lk6 rfl rfl rfl rfl rfl rfl) h1 h2).chg1 e2, e3.out1⟩) ?_)
      | ((with_reducible show CallEv _ _ 59 _ _ _ _ _); refine callE (k := 59) (fun β w' hbw => h59 w') ?_)
    all_goals first | (exfalso; omega) | exact ⟨(S ||| 2 ^ t, t, l + 1, k, [((t : Int), (f : Int), (l : Int))]), ⟨⟨or_512 hS (by omega), hz.2.1, by show l + 1 ≤ 100; omega⟩, by show unp (T.length - 1) (S ||| 2 ^ t) < k; omega, hCl, hC2⟩, Nat.lt_succ_self k, Ent.ren (rho [(8, 12), (9, 13)]) rfl rfl ⟨rfl, rfl, rfl, rfl, rfl, trivial⟩ ⟨rfl, rfl, rfl, rfl, rfl, rfl, rfl, rfl, rfl, trivial⟩ fun _ h => h⟩
   | cons c C =>
    simp only [List.length_cons] at hl
    repeat'
     conv => whnf
     first
      | refine zA ?_ | refine zB ?_ | refine zC ?_ | refine zD ?_ | refine zE ?_ | refine zF ?_ | refine zG ?_ | refine zH ?_ | refine zJ ?_ | refine zI ?_ | refine splT ?_ | refine splF ?_ | refine splNot ?_
      | ((first | refine splIn ?_ ?_ | refine splD ?_ ?_ | refine splE ?_ ?_ | refine splNE ?_ ?_) <;> intro hc <;> first | (exfalso; omega) | (exfalso; dsimp only at hc; omega) | skip)
      | ((with_reducible show CallEv _ _ 58 _ _ _ _ _); refine callWR [1, 2, 3, 4, 5, 6] [(5, .obj p.2.2.2.1 (MpOk Try.prog 118 (stD (hmO (Tr.d ⟨days, shift, size, to, tc, T, lo, lc, L⟩) (ALO (Tr.d ⟨days, shift, size, to, tc, T, lo, lc, L⟩)))))), (6, .obj p.2.2.2.2 (MpOk Try.prog 118 (stD (bgO (Tr.d ⟨days, shift, size, to, tc, T, lo, lc, L⟩) (ALO (Tr.d ⟨days, shift, size, to, tc, T, lo, lc, L⟩))))))] (spV (some (t, f, l))) rfl (fun β w' h1 h2 hs2 => (h58 p (hs2 w' (Chg.refl _ _)).2.1 (fun i => β (i + 1)) w' (PS.of1 (x := ⟨days, shift, size, to, tc, T, lo, lc, L⟩) (AL := ALO (Tr.d ⟨days, shift, size, to, tc, T, lo, lc, L⟩)) (aa := p.1) (an := p.2.1) (ac := p.2.2.1) (b1 := p.2.2.2.1) (b2 := p.2.2.2.2) (lk6 rfl rfl rfl rfl rfl rfl) h1 h2) (fun w2 hc => hPp p w2 (hs2 w2 (chg_six1 (x := ⟨days, shift, size, to, tc, T, lo, lc, L⟩) (AL := ALO (Tr.d ⟨days, shift, size, to, tc, T, lo, lc, L⟩)) (aa := p.1) (an := p.2.1) (ac := p.2.2.1) (b1 := p.2.2.2.1) (b2 := p.2.2.2.2) (lk6 rfl rfl rfl rfl rfl rfl) hc)))).mono fun e w2 ⟨e1, e2, e3⟩ => ⟨e1, (PS.of1 (x := ⟨days, shift, size, to, tc, T, lo, lc, L⟩) (AL := ALO (Tr.d ⟨days, shift, size, to, tc, T, lo, lc, L⟩)) (aa := p.1) (an := p.2.1) (ac := p.2.2.1) (b1 := p.2.2.2.1) (b2 := p.2.2.2.2) (lk6 rfl rfl rfl rfl rfl rfl) h1 h2).chg1 e2, e3.out1⟩) ?_)
      | ((with_reducible show CallEv _ _ 59 _ _ _ _ _); refine callE (k := 59) (fun β w' hbw => h59 w') ?_)
    all_goals first | (exfalso; omega) | exact ⟨(S ||| 2 ^ t, t, l + 1, k, c :: C ++ [((t : Int), (f : Int), (l : Int))]), ⟨⟨or_512 hS (by omega), hz.2.1, by show l + 1 ≤ 100; omega⟩, by show unp (T.length - 1) (S ||| 2 ^ t) < k; omega, hCl, hC2⟩, Nat.lt_succ_self k, Ent.ren (rho [(8, 12), (9, 13)]) rfl rfl ⟨by simp [oSV]; rfl, rfl, rfl, rfl, rfl, trivial⟩ ⟨rfl, rfl, rfl, rfl, rfl, rfl, rfl, rfl, by simp [oM]; rfl, trivial⟩ fun _ h => h⟩
end Go.Proofs.Ythfabodamhdhaaa
namespace Go.Proofs.Ythfabodamhdhaaa
open Go Tx Go.RowKit
set_option linter.unusedSimpArgs false
set_option linter.unusedVariables false
theorem take_snoc0 {α : Type} {L : List α} {i : Nat} {u : α} (h : L[i]? = some u) : L.take (i + 1) = L.take i ++ [u] := by
 rw [List.take_add_one, h]; rfl
theorem pS_mkA (D : List Mk) (i : Nat) : pS D (i + 1) = pS D i + (mkA D i).nd := by
 rw [pS]
 unfold mkA
 cases D[i]? with
 | none => rfl
 | some m => rfl
theorem pS_congr {D D' : List Mk} (hn : ∀ t, (mkA D' t).nd = (mkA D t).nd) : ∀ i, pS D' i = pS D i
 | 0 => rfl
 | i + 1 => by rw [pS_mkA, pS_mkA, pS_congr hn i, hn]
theorem fr_mono {D D' : List Mk} {K : Nat} (hl : D'.length = D.length) (hn : ∀ t, (mkA D' t).nd = (mkA D t).nd) (ho : ∀ t, (mkA D' t).op = true → mkA D' t = mkA D t) {A B A' B' : List Int} (h : ByOk D K 0 A B) (h' : ByOk D' K 0 A' B') :
 ∀ k t, D.length - t = k → t ≤ D.length → (∀ i, t ≤ i → i ≤ D.length → atI A i ≤ atI A' i) ∧ atI B t ≤ atI B' t
 | 0, t, hk, ht => by
  obtain rfl : t = D.length := by omega
  refine ⟨fun i h1 h2 => ?_, ?_⟩
  · obtain rfl : i = D.length := by omega
    have e := h'.z.1
    rw [hl] at e
    rw [h.z.1, e]; exact Int.le_refl _
  · have e := h'.z.2
    rw [hl] at e
    rw [h.z.2, e]; exact Int.le_refl _
 | k + 1, t, hk, ht => by
  obtain ⟨ih1, ih2⟩ := fr_mono hl hn ho h h' k (t + 1) (by omega) (by omega)
  have hp := pS_congr hn
  have hA : atI A t ≤ atI A' t := by
   have hb := (h.f t (Nat.zero_le _) (by omega)).b
   rcases (h'.f t (Nat.zero_le _) (by omega)).at' with g1 | ⟨g1, s, g2, g3, g4, g5⟩
   · omega
   · have e := ho t g1
     have h1 := (h.f t (Nat.zero_le _) (by omega)).le (by rw [← e]; exact g1) s g2 (by omega) (by unfold fdB at g4 ⊢; rw [hp, hp] at g4; exact g4)
     have h2 : prO D' t s = prO D t s := by unfold prO; rw [e, hp, hp]
     have h3 := ih1 s (by omega) (by omega)
     omega
  refine ⟨fun i h1 h2 => ?_, ?_⟩
  · by_cases e : i = t
    · subst e; exact hA
    · exact ih1 i (by omega) h2
  · have h1 := h.t t (Nat.zero_le _) (by omega)
    have h2 := h'.t t (Nat.zero_le _) (by omega)
    unfold BtOk at h1 h2
    rw [hn t] at h2
    have e1 := imin_eq (atI A t) (atI B (t + 1))
    have e2 := imin_eq (atI A' t) (atI B' (t + 1))
    by_cases hz : (mkA D t).nd = 0
    · rw [if_pos hz] at h1 h2; omega
    · rw [if_neg hz] at h1 h2; omega
theorem mkA_mkD (nd tr : Int) (P : List Int) (S : List (Int × Int × Int)) (n t : Nat) : mkA (mkD nd tr P S n) t = if t < n then mkM nd tr P S t else ⟨0, 0, 0, false⟩ := by
 unfold mkA mkD
 rw [List.getElem?_map]
 by_cases h : t < n
 · rw [if_pos h, List.getElem?_range h]; rfl
 · rw [if_neg h, List.getElem?_eq_none (by rw [List.length_range]; omega)]; rfl
theorem mkS_some {P : List Int} {d : Int} : ∀ (S : List (Int × Int × Int)) (q : Int × Bool), (mkS P d S q).2 = true → q.2 = true ∨ ∃ s ∈ S, s.2.1 ≤ d ∧ d ≤ s.2.2
 | [], q, h => .inl h
 | s :: S, q, h => by
  rcases mkS_some S _ h with h1 | ⟨u, h1, h2⟩
  · split at h1
    · rename_i hc; exact .inr ⟨s, List.mem_cons_self .., hc⟩
    · exact .inl h1
  · exact .inr ⟨u, List.mem_cons_of_mem _ h1, h2⟩
theorem ch_ge {x : To} (hn : ToN x) : ∀ (L : List (Nat × Nat × Nat)) (S a d : Nat), Ch x S a d L → ∀ u ∈ L, d ≤ u.2.1
 | (t, f, l) :: L, S, a, d, ⟨h1, h2, h3, h4, h5⟩, u, hu => by
  have h6 := ALO_ok hn t f h1.1 h1.2 l h4
  rcases List.mem_cons.1 hu with rfl | hu
  · show d ≤ f; omega
  · have := ch_ge hn L _ _ _ h5 u hu; omega
theorem ch_last {x : To} (hn : ToN x) : ∀ (L : List (Nat × Nat × Nat)) (u : Nat × Nat × Nat) (S a d : Nat), Ch x S a d (L ++ [u]) → ∀ v ∈ L, v.2.2 < u.2.1
 | (t, f, l) :: L, u, S, a, d, ⟨h1, h2, h3, h4, h5⟩, v, hv => by
  rcases List.mem_cons.1 hv with rfl | hv
  · have := ch_ge hn _ _ _ _ h5 u (by simp)
    show l < _; omega
  · exact ch_last hn L u _ _ _ h5 v hv
theorem bs_last {x : To} (h : toB x = true) : ∀ u, (bsS x)[(bsS x).length - 1]? = some u → ∀ v ∈ (bsS x).take ((bsS x).length - 1), v.2.2 < u.2.1 := by
 have hn := toB_n h
 have hu : unp (x.T.length - 1) 0 ≤ x.T.length := by
  unfold unp
  have := List.length_filter_le (fun t => !(Nat.testBit 0 (t + 1))) (List.range (x.T.length - 1))
  rw [List.length_range] at this
  omega
 have hb := hmO_ge x (ALO x) 0 0 0
 have hb0 : bsO x 0 0 0 = 0 := rfl
 have hT9 := hn.n
 have h00 : csO x 0 0 = 0 := by
  have h1 := h
  simp only [toB, Bool.and_eq_true, List.all_eq_true, List.mem_range] at h1
  have h2 := h1.2.2 0 (by have := hn.l; omega)
  unfold csO lgO
  cases hr : x.L[0]? with
  | none => rfl
  | some r =>
   rw [hr] at h2
   simp only [Option.any_some, lgB, Bool.and_eq_true, decide_eq_true_eq] at h2
   rw [Option.getD_some, h2.2.1]; rfl
 obtain ⟨L, h1, h2, h3⟩ := seqO_ch hn h00 x.T.length 0 0 0 (fun _ => rfl) hu (by omega)
 have e : bsS x = L.map toI := h1
 rw [e]
 intro u hu v hv
 rw [List.length_map] at hu hv
 rw [List.getElem?_map, Option.map_eq_some_iff] at hu
 obtain ⟨u', hu', rfl⟩ := hu
 rw [← List.map_take] at hv
 obtain ⟨v', hv', rfl⟩ := List.mem_map.1 hv
 have hl := (List.getElem?_eq_some_iff.1 hu').1
 have e2 : L = L.take (L.length - 1) ++ [u'] := by
  have := take_snoc0 hu'
  rw [show L.length - 1 + 1 = L.length from by omega, List.take_length] at this
  exact this
 rw [e2] at h2
 have := ch_last hn _ _ _ _ _ h2 v' hv'
 show ((v'.2.2 : Nat) : Int) < ((u'.2.1 : Nat) : Int)
 omega
theorem mk_less {nd tr : Int} {P : List Int} {S : List (Int × Int × Int)} {n : Nat} (h : ∀ u, S[S.length - 1]? = some u → ∀ v ∈ S.take (S.length - 1), v.2.2 < u.2.1) (t : Nat) (ho : (mkA (mkD nd tr P (S.take (S.length - 1)) n) t).op = true) : mkA (mkD nd tr P (S.take (S.length - 1)) n) t = mkA (mkD nd tr P S n) t := by
 rw [mkA_mkD] at ho ⊢
 rw [mkA_mkD]
 by_cases ht : t < n
 · rw [if_pos ht] at ho ⊢
   rw [if_pos ht]
   rcases Nat.eq_zero_or_pos S.length with h0 | h0
   · have : S = [] := List.length_eq_zero_iff.1 h0
     subst this; rfl
   · obtain ⟨u, hu⟩ : ∃ u, S[S.length - 1]? = some u := ⟨_, List.getElem?_eq_getElem (by omega)⟩
     have e : S = S.take (S.length - 1) ++ [u] := by
      have := take_snoc0 hu
      rw [show S.length - 1 + 1 = S.length from by omega, List.take_length] at this
      exact this
     rcases mkS_some _ _ ho with h1 | ⟨v, h1, h2, h3⟩
     · cases h1
     · have h4 := h u hu v h1
       unfold mkM
       have e2 : mkS P (t : Int) S (0, false) = mkS P (t : Int) (S.take (S.length - 1)) (0, false) := by
        have h5 := mkS_snoc P (t : Int) (S.take (S.length - 1)) u (0, false)
        rw [← e, if_neg (by omega)] at h5
        exact h5
       rw [e2]
 · rw [if_neg ht] at ho; cases ho
theorem mk_nd {nd tr : Int} {P : List Int} {S S' : List (Int × Int × Int)} {n : Nat} (t : Nat) : (mkA (mkD nd tr P S' n) t).nd = (mkA (mkD nd tr P S n) t).nd := by
 rw [mkA_mkD, mkA_mkD]
 by_cases ht : t < n
 · rw [if_pos ht, if_pos ht]; rfl
 · rw [if_neg ht, if_neg ht]
theorem closed_B {nd tr : Int} {P : List Int} {n K : Nat} {A B : List Int} (h1 : 1 ≤ n) (h : ByOk (mkD nd tr P [] n) K 0 A B) : (nd = 0 → atI B 0 = 0) ∧ (nd ≠ 0 → atI B 0 = 1000000000) := by
 have hA : ∀ t, t < n → atI A t = 1000000000 := fun t ht => by
  rcases (h.f t (Nat.zero_le _) (by rw [mkD_len]; exact ht)).at' with g | ⟨g, _⟩
  · exact g
  · rw [mkA_mkD, if_pos ht] at g; cases g
 have hnd : ∀ t, t < n → (mkA (mkD nd tr P [] n) t).nd = nd := fun t ht => by rw [mkA_mkD, if_pos ht]; rfl
 refine ⟨fun h0 => ?_, fun h0 => ?_⟩
 · have key : ∀ k t, n - t = k → t ≤ n → atI B t = 0 := by
    intro k
    induction k with
    | zero =>
     intro t hk ht
     have e := h.z.2
     rw [mkD_len] at e
     rw [show t = n from by omega]; exact e
    | succ k ih =>
     intro t hk ht
     have g := h.t t (Nat.zero_le _) (by rw [mkD_len]; omega)
     unfold BtOk at g
     rw [hnd t (by omega), if_pos h0, hA t (by omega), ih (t + 1) (by omega) (by omega)] at g
     rw [g, imin_eq]; decide
   exact key n 0 (by omega) (by omega)
 · have g := h.t 0 (Nat.zero_le _) (by rw [mkD_len]; omega)
   unfold BtOk at g
   rw [hnd 0 (by omega), if_neg h0, hA 0 (by omega)] at g
   exact g
theorem plan_on {nd tr : Int} {P : List Int} {S : List (Int × Int × Int)} {n K : Nat} {L : List Nat} {cost : Int} (h : PlF (mkD nd tr P S n) K L cost) {i m : Nat} (hm : L[i]? = some m) : S.any (fun s => decide (s.2.1 ≤ (m : Int)) && decide ((m : Int) ≤ s.2.2)) = true := by
 obtain ⟨h1, h2, _⟩ := h.n i m hm
 rw [mkD_len] at h1
 rw [mkA_mkD, if_pos h1] at h2
 rcases mkS_some _ _ h2 with h3 | ⟨s, h3, h4, h5⟩
 · cases h3
 · rw [List.any_eq_true]
   exact ⟨s, h3, by simp [h4, h5]⟩
abbrev etD : List Mk := [⟨2, 3, 4, true⟩]
theorem et_ok : RoadOk etD 1 := ⟨by decide, by decide, fun m hm => by rw [List.mem_singleton] at hm; subst hm; exact ⟨by decide, by decide, by decide⟩⟩
theorem et_res {y : BuyR} (h : y.Ok etD 1) : y.er = 0 ∧ y.cost = 10 ∧ y.L = [0] ∧ ∃ a, y.po = some a := by
 obtain ⟨⟨hby, hpo⟩, hr⟩ := h
 have hp0 : pS etD 0 = 0 := rfl
 have hp1 : pS etD 1 = 2 := by decide
 have hpr : prO etD 0 1 = 10 := by decide
 have hz := hby.z.1
 have hf := hby.f 0 (Nat.zero_le _) (by decide)
 have hle := hf.le rfl 1 (by decide) (by decide) (by decide)
 have hz1 : atI y.A 1 = 0 := hz
 have hA0 : atI y.A 0 = 10 := by
  rcases hf.at' with g | ⟨_, s, g1, g2, g3, g4⟩
  · omega
  · obtain rfl : s = 1 := by have : etD.length = 1 := rfl; omega
    omega
 have hB0 : atI y.B 0 = 10 := by
  have g := hby.t 0 (Nat.zero_le _) (by decide)
  unfold BtOk at g
  rw [if_neg (by decide)] at g
  omega
 rcases hr with ⟨_, g, _⟩ | ⟨g1, g2, g3, g4, g5⟩
 · omega
 · have hL : y.L = [0] := by
    rcases g4 with ⟨_, g, _⟩ | ⟨t, R, g6, g7, g8, g9, g10, g11⟩
    · omega
    · have : etD.length = 1 := rfl
      obtain rfl : t = 0 := by omega
      cases R with
      | nil => exact g6
      | cons s R => have := g11.1; omega
   exact ⟨g1, by omega, hL, hpo (by rw [hL]; simp)⟩
end Go.Proofs.Ythfabodamhdhaaa
namespace Go.Proofs.Ythfabodamhdhaaa.Tx
open Go Go.RowKit
set_option linter.unusedSimpArgs false
set_option linter.unusedVariables false
theorem foldS_all' {L : List (Oper × Ef)} {σ : Sg} {listed : Array Bool} (hls : listed.size = L.length) (h : ∀ j, j < L.length → listed.getD j false = true) : foldS L listed.toList σ = fin L σ := by
 refine foldS_all L listed.toList σ (by simpa using hls) fun b hb => ?_
 obtain ⟨k, hk, rfl⟩ := List.mem_iff_getElem.1 hb
 have hk' : k < listed.size := by simpa using hk
 have := h k (by omega)
 simp only [Array.getD_eq_getD_getElem?, Array.getElem?_eq_getElem hk', Option.getD_some] at this
 simpa using this
section
variable {X : Cx} {F : Fence} {n : Nat} {P : Program} {ops : Array Oper} {Q : Exit → Act → World → Prop}
def GG (X : Cx) (F : Fence) (n : Nat) (P : Program) (ops : Array Oper) (Q : Exit → Act → World → Prop) (L : List (Oper × Ef)) (σ : Sg) (done todo : List Nat) : Prop :=
 ∀ (fuel : Nat) (listed : Array Bool) (a : Act) (w : World), listed.size = L.length → listed.toList.countP (! ·) = fuel →
  (∀ j, listed.getD j false = true → ∀ o, (L.map (·.1))[j]? = some o → ∀ e ∈ o.after, Region.binds .any e = true → listed.getD e.on false = true) →
  (∀ c ∈ done, listed.getD c false = true) → (∀ c ∈ todo, listed.getD c false = false) → Sat X (foldS L listed.toList σ) a w → wpAnyIn F n P .any ops Q fuel listed a w
theorem GG_end {L : List (Oper × Ef)} {σ : Sg} {done : List Nat} (hL : ops.toList = L.map (·.1)) (hd : DrawOK L σ) (hlink : ∀ i p, i ∉ done → L[i]? = some p → Link F n P ops p.1 (fin (L.take i) σ) p.2)
 (hq : ∀ a w, Sat X (fin L σ) a w → Q .normal a w) : GG X F n P ops Q L σ done [] := by
 have hget : ∀ i : Nat, ops[i]? = (L[i]?).map (fun p : Oper × Ef => p.1) := fun i => by rw [← List.getElem?_map, ← hL, Array.getElem?_toList]
 intro fuel
 induction fuel with
 | zero =>
  intro listed a w hls hc hdown hdone _ hsat
  have hall : ∀ j, j < L.length → listed.getD j false = true := fun j hj => by
   rw [List.countP_eq_zero] at hc
   have hj' : j < listed.size := by omega
   have := hc listed[j] (by simp)
   simp only [Array.getD_eq_getD_getElem?, Array.getElem?_eq_getElem hj', Option.getD_some]
   simpa using this
  have hnone : Region.ready .any ops listed = [] := by
   rw [List.eq_nil_iff_forall_not_mem]
   intro i hi
   obtain ⟨h0, o, ho, _⟩ := mem_ready.1 hi
   have hsz : ops.size = L.length := by have := congrArg List.length hL; simpa using this
   have hi2 := (Array.getElem?_eq_some_iff.1 ho).1
   have := hall i (by rw [← hsz]; exact hi2)
   rw [getD_tf (by omega), this] at h0
   cases h0
  exact ⟨hnone, hq a w (by rw [← foldS_all' hls hall]; exact hsat)⟩
 | succ fuel ih =>
  intro listed a w hls hc hdown hdone htodo hsat
  refine ⟨fun hr => hq a w (by rw [← foldS_all' hls (all_listed hL hd hls hr)]; exact hsat), fun i hi => ?_⟩
  obtain ⟨h0, o, ho, hall⟩ := mem_ready.1 hi
  have hiL : i < L.length := by
   have hsz : ops.size = L.length := by have := congrArg List.length hL; simpa using this
   rw [← hsz]; exact (Array.getElem?_eq_some_iff.1 ho).1
  obtain ⟨E, hE⟩ : ∃ E, L[i]? = some (o, E) := by
   have := hget i
   rw [ho, List.getElem?_eq_getElem hiL] at this
   simp only [Option.map_some, Option.some.injEq] at this
   exact ⟨(L[i]).2, by rw [List.getElem?_eq_getElem hiL, this]⟩
  have h0' : listed.getD i false = false := by rw [← getD_tf (by omega)]; exact h0
  have hnd : i ∉ done := fun h => by have := hdone i h; rw [h0'] at this; cases this
  unfold wpOpIn
  rw [ho]
  refine (any_norm (Q := Q) hL hd hls hdown h0' hall hE (hlink i _ hnd hE) hsat).mono fun a' w' hs' => ?_
  exact ih (listed.setIfInBounds i true) a' w' (by simpa using hls) (countP_next (by omega) h0' hc) (down_next (by simp [hE]) hdown hall) (fun c hc => getD_set_true (hdone c hc)) (fun c hc => by cases hc) hs'
theorem foldS_congr : ∀ (L L' : List (Oper × Ef)) (S : List Bool) (σ : Sg), L.length = L'.length → (∀ i : Nat, S[i]? = some true → L[i]? = L'[i]?) → foldS L S σ = foldS L' S σ
 | [], [], _, _, _, _ => rfl
 | [], q :: L', _, _, hl, _ => by simp at hl
 | p :: L, [], _, _, hl, _ => by simp at hl
 | p :: L, q :: L', [], σ, _, _ => by simp [foldS]
 | p :: L, q :: L', b :: S, σ, hl, h => by
  simp only [foldS]
  have ht := fun (i : Nat) (hi : S[i]? = some true) => h (i + 1) (by simpa using hi)
  cases b with
  | false => simpa using foldS_congr L L' S σ (by simpa using hl) (fun i hi => by simpa using ht i hi)
  | true =>
   have h0 := h 0 rfl
   simp only [List.getElem?_cons_zero, Option.some.injEq] at h0
   subst h0
   simpa using foldS_congr L L' S _ (by simpa using hl) (fun i hi => by simpa using ht i hi)
theorem app_h (σ : Sg) (d : Option Tmp) (E : Ef) (h : World → Prop) : ({σ with h := h} : Sg).app d E = {σ.app d E with h := h} := rfl
theorem foldS_h : ∀ (L : List (Oper × Ef)) (S : List Bool) (σ : Sg) (h : World → Prop), foldS L S {σ with h := h} = {foldS L S σ with h := h}
 | p :: L, b :: S, σ, h => by
  simp only [foldS]
  cases b with
  | false => simpa using foldS_h L S σ h
  | true =>
   simp only [if_true]
   rw [app_h]
   exact foldS_h L S _ h
 | [], _, σ, h => by simp [foldS]
 | _ :: _, [], σ, h => by simp [foldS]
theorem fin_h : ∀ (L : List (Oper × Ef)) (σ : Sg) (h : World → Prop), fin L {σ with h := h} = {fin L σ with h := h}
 | [], _, _ => rfl
 | p :: L, σ, h => by
  simp only [fin]
  rw [app_h]
  exact fin_h L _ h
theorem fin_nt (L : List (Oper × Ef)) (σ : Sg) : (fin L σ).nt = σ.nt := by
 induction L generalizing σ with
 | nil => rfl
 | cons p L ih => simp only [fin]; rw [ih]; rfl
def FamC (F : Fence) (n : Nat) (P : Program) (ops : Array Oper) (o : Oper) (σ : Sg) (E0 : Ef) {α : Type} (V : α → Value) (hx : α → World → Prop) : Prop :=
 ∀ (Q : Exit → Act → World → Prop) (β : Nat → Nat) (a : Act) (w : World) (K : Act → World → Prop), Sees σ E0 β a w → (∀ y w', Below w.heap.size w w' → St w.heap.size (hx y) w' → K (a.put o.dst (V y)) w') → StepB F n P ops Q o K a w
theorem GG_fam {α : Type} (LF : α → List (Oper × Ef)) (V : α → Value) (hx : α → World → Prop) (y0 : α) {σ : Sg} {done : List Nat} (c : Nat) (rest : List Nat) (oc : Oper)
 (hL : ∀ y, ops.toList = (LF y).map (·.1)) (hd : ∀ y, DrawOK (LF y) σ) (hEc0 : ∀ y, ∃ rs rb, (LF y)[c]? = some (oc, ⟨.v (V y), [], [], rs, rb⟩))
 (hind : ∀ y y' i, i ≠ c → ((bef ops.toList []).getD i 0).testBit c = false → (LF y)[i]? = (LF y')[i]?)
 (hlink : ∀ i p, i ∉ done → i ≠ c → ((bef ops.toList []).getD i 0).testBit c = false → (LF y0)[i]? = some p → Link F n P ops p.1 (fin ((LF y0).take i) σ) p.2)
 (hdst : ∀ d, oc.dst = some d → d < σ.nt) (hfam0 : ∀ rs rb, (LF y0)[c]? = some (oc, ⟨.v (V y0), [], [], rs, rb⟩) → FamC F n P ops oc (fin ((LF y0).take c) σ) ⟨.v (V y0), [], [], rs, rb⟩ V hx) (hrest : ∀ d ∈ rest, d ≠ c ∧ ((bef ops.toList []).getD d 0).testBit c = true)
 (hnext : ∀ y, GG X F n P ops Q (LF y) {σ with h := fun w => σ.h w ∧ hx y w} (c :: done) rest) : GG X F n P ops Q (LF y0) σ done (c :: rest) := by
 obtain ⟨rs0, rb0, hEc⟩ := hEc0 y0
 have hfam := hfam0 rs0 rb0 hEc
 have hlen : ∀ y, (LF y).length = (LF y0).length := fun y => by
  have h1 := congrArg List.length (hL y)
  have h2 := congrArg List.length (hL y0)
  simp only [List.length_map] at h1 h2
  omega
 have hget : ∀ i : Nat, ops[i]? = ((LF y0)[i]?).map (fun p : Oper × Ef => p.1) := fun i => by rw [← List.getElem?_map, ← hL y0, Array.getElem?_toList]
 have hcl : c < (LF y0).length := (List.getElem?_eq_some_iff.1 hEc).1
 intro fuel
 induction fuel with
 | zero =>
  intro listed a w hls hc hdown hdone htodo hsat
  exfalso
  rw [List.countP_eq_zero] at hc
  have hj' : c < listed.size := by omega
  have h1 := hc listed[c] (by simp)
  have h2 := htodo c List.mem_cons_self
  simp only [Array.getD_eq_getD_getElem?, Array.getElem?_eq_getElem hj', Option.getD_some] at h2
  rw [h2] at h1
  simp at h1
 | succ fuel ih =>
  intro listed a w hls hc hdown hdone htodo hsat
  have hc0 := htodo c List.mem_cons_self
  refine ⟨fun hr => ?_, fun i hi => ?_⟩
  · have := all_listed (hL y0) (hd y0) hls hr c hcl
    rw [hc0] at this; cases this
  obtain ⟨h0, o, ho, hall⟩ := mem_ready.1 hi
  have hiL : i < (LF y0).length := by
   have hsz : ops.size = (LF y0).length := by have := congrArg List.length (hL y0); simpa using this
   rw [← hsz]; exact (Array.getElem?_eq_some_iff.1 ho).1
  have h0' : listed.getD i false = false := by rw [← getD_tf (by omega)]; exact h0
  have hnodep : ∀ j, listed.getD j false = true → j < (LF y0).length → ((bef ops.toList []).getD j 0).testBit c = false := fun j hj hjl => by
   refine Classical.byContradiction fun hbit => ?_
   have hbit : ((bef ops.toList []).getD j 0).testBit c = true := by simpa using hbit
   rw [hL y0] at hbit
   have hjo : ((LF y0).map (·.1))[j]? = some ((LF y0)[j]).1 := by simp [List.getElem?_eq_getElem hjl]
   have := (bef_listed (hd y0).edges (fun j => listed.getD j false = true) hdown j j (Nat.le_refl _) _ hjo (hdown j hj _ hjo) c hbit).1
   rw [hc0] at this; cases this
  unfold wpOpIn
  rw [ho]
  by_cases hic : i = c
  · subst hic
    obtain ⟨β, Dm, hsat'⟩ := hsat
    have hoc : o = oc := by
     have := hget i
     rw [ho, hEc] at this
     simpa using this
    subst hoc
    have hwfE : ∀ (σ' : Sg) y rs rb, Ef.Wf ⟨.v (V y), [], [], rs, rb⟩ σ' := fun σ' y rs rb => ⟨fun i b h => (by cases h), fun i b b' h => (by cases h)⟩
    obtain ⟨hsees, _⟩ := any_core (hL y0) (hd y0) hls hdown h0' hall hEc (hwfE _ _ _ _) (fun i b h => by cases h) (fun d hd' => by rw [fin_nt]; exact hdst d hd') hsat'
    refine hfam Q β a w _ hsees fun y w' hb hst => ?_
    obtain ⟨rs, rb, hEy⟩ := hEc0 y
    have hmap : (LF y).map (·.1) = (LF y0).map (·.1) := by rw [← hL y, ← hL y0]
    have hfold : foldS (LF y) listed.toList σ = foldS (LF y0) listed.toList σ := foldS_congr _ _ _ _ (hlen y) fun j hj => by
     have hj' : j < listed.size := by have := (List.getElem?_eq_some_iff.1 hj).1; simpa using this
     have hjt : listed.getD j false = true := by
      simp only [Array.getD_eq_getD_getElem?, Array.getElem?_eq_getElem hj', Option.getD_some]
      rw [Array.getElem?_toList, Array.getElem?_eq_getElem hj', Option.some.injEq] at hj
      exact hj
     refine hind y y0 j (fun e => ?_) (hnodep j hjt (by omega))
     subst e
     rw [hc0] at hjt; cases hjt
    obtain ⟨_, hav, hwf, hnt, hD, _⟩ := any_core (hL y) (hd y) (by rw [hlen]; exact hls) (by rw [hmap]; exact hdown) h0' hall hEy (hwfE _ _ _ _) (fun i b h => by cases h) (fun d hd' => by rw [fin_nt]; exact hdst d hd') (by rw [hfold]; exact hsat')
    have hset : (listed.setIfInBounds i true).toList = listed.toList.set i true := by simp
    have hoL : ((LF y0).map (·.1))[i]? = some o := by simp [hEc]
    refine hnext y fuel (listed.setIfInBounds i true) _ w' (by rw [hlen]; simpa using hls) (countP_next (by omega) h0' hc) (by rw [hmap]; exact down_next hoL hdown hall) (fun d hd' => ?_) (fun d hd' => ?_) ?_
    · rcases List.mem_cons.1 hd' with rfl | hd'
      · have hj' : d < listed.size := by omega
        simp [Array.getD_eq_getD_getElem?, hj']
      · exact getD_set_true (hdone d hd')
    · have h1 := htodo d (List.mem_cons_of_mem _ hd')
      have hne := (hrest d hd').1
      refine getD_false fun h2 => ?_
      rw [getD_set_ne false (fun e => hne e.symm)] at h2
      rw [h1] at h2; cases h2
    · rw [foldS_h, hset]
      have hext := sat_ext (hx := hx y) (by rw [← hfold] at hsat'; exact hsat') hb hst
      obtain ⟨D2, hext⟩ : ∃ D2, Sat' X {foldS (LF y) listed.toList σ with h := fun w => (foldS (LF y) listed.toList σ).h w ∧ hx y w} β D2 a w' := ⟨_, hext⟩
      have happ := hext.app (E := ⟨.v (V y), [], [], rs, rb⟩) (dst := o.dst) ⟨hav.t, hav.g, hav.m⟩ (hwfE _ _ _ _) hnt (β' := β) (w' := w') ⟨fun _ _ => rfl, Chg.refl _ _, fun i b h => (by cases h), fun i h => (by cases h), fun i h => (by cases h)⟩
      refine ⟨β, D2, Sat'.congr (σ' := {foldS (LF y) (listed.toList.set i true) σ with h := fun w => σ.h w ∧ hx y w}) (σ := ({foldS (LF y) listed.toList σ with h := fun w => (foldS (LF y) listed.toList σ).h w ∧ hx y w} : Sg).app o.dst ⟨.v (V y), [], [], rs, rb⟩) (fun k => look_inl (hD (true, k))) (fun g => look_inr (hD (false, g))) ?_ ?_ ?_ happ⟩
      · show (foldS (LF y) (listed.toList.set i true) σ).nt = (foldS (LF y) listed.toList σ).nt
        rw [(foldS_meta _ _ σ).1]; exact ((foldS_meta (LF y) listed.toList σ).1).symm
      · show (fun w => σ.h w ∧ hx y w) = fun w => (foldS (LF y) listed.toList σ).h w ∧ hx y w
        rw [(foldS_meta (LF y) listed.toList σ).2]
      · show (foldS (LF y) (listed.toList.set i true) σ).z = (foldS (LF y) listed.toList σ).z
        rw [foldS_z]; exact (foldS_z (LF y) listed.toList σ).symm
  · have hnd : i ∉ done := fun h => by have := hdone i h; rw [h0'] at this; cases this
    obtain ⟨E, hE⟩ : ∃ E, (LF y0)[i]? = some (o, E) := by
     have := hget i
     rw [ho, List.getElem?_eq_getElem hiL] at this
     simp only [Option.map_some, Option.some.injEq] at this
     exact ⟨((LF y0)[i]).2, by rw [List.getElem?_eq_getElem hiL, this]⟩
    have hoL : ((LF y0).map (·.1))[i]? = some o := by simp [hE]
    have hdep : ((bef ops.toList []).getD i 0).testBit c = false := by
     refine Classical.byContradiction fun hbit => ?_
     have hbit : ((bef ops.toList []).getD i 0).testBit c = true := by simpa using hbit
     rw [hL y0] at hbit
     have := (bef_listed (hd y0).edges (fun j => listed.getD j false = true) hdown i i (Nat.le_refl _) _ hoL hall c hbit).1
     rw [hc0] at this; cases this
    refine (any_norm (Q := Q) (hL y0) (hd y0) hls hdown h0' hall hE (hlink i _ hnd hic hdep hE) hsat).mono fun a' w' hs' => ?_
    refine ih (listed.setIfInBounds i true) a' w' (by simpa using hls) (countP_next (by omega) h0' hc) (down_next hoL hdown hall) (fun d hd' => getD_set_true (hdone d hd')) (fun d hd' => ?_) hs'
    have h1 := htodo d hd'
    have hne : d ≠ i := fun e => by
     subst e
     rcases List.mem_cons.1 hd' with h | h
     · exact hic h
     · have := (hrest d h).2
       rw [hdep] at this; cases this
    refine getD_false fun h2 => ?_
    rw [getD_set_ne false (fun e => hne e.symm)] at h2
    rw [h1] at h2; cases h2
end
section
variable {P : Program} (T : Env P)
structure Fm where
 α : Type
 V : α → Value
 hx : α → World → Prop
 y : α
inductive FamEv (P : Program) (σ : Sg) (kn : World → Prop) (k : Nat) (l : List SV) (f : Fm) (K : List Nat → Prop) : Prop
 | mk (rb : List Nat) (h : ∀ β w, (∀ i ∈ rb, ∀ b, lk σ.m i = some b → b.ok β w (β i)) → kn w → Calls P k (SV.cs β l).toArray w fun e w' => ∃ x, e = .returned (f.V x) ∧ Below w.heap.size w w' ∧ St w.heap.size (f.hx x) w') (hK : K rb) : FamEv P σ kn k l f K
def famG (o : Oper) (σ : Sg) (kn : World → Prop) (f : Fm) (K : List Nat → List Nat → Prop) : Prop :=
 match o.op, o.guard with
 | .call ⟨.value fo, args, _⟩, none => (match gv σ fo with
  | some (.v (.func (.func k) first cap)) => (T.fn k = true ∧ first.toList = [] ∧ cap.toList = []) ∧ gvs σ args.toList fun l => normK l fun l' => FamEv P σ kn k l' f fun rb => K (os fo ++ oss args.toList) rb
  | _ => False)
 | _, _ => False
theorem fam_op {F : Fence} {n : Nat} {ops : Array Oper} {dst : Option Tmp} {fo : Operand} {args : Array Operand} {ts : Array TypeId} {ty : TypeId} {pos : String} {after : Array Edge} {σ : Sg} {kn : World → Prop} {k : Nat} {l : List SV} {f : Fm} {v0 : Value} {rb : List Nat} (hF : Wd F)
 (hf : gv σ fo = some (.v (.func (.func k) #[] #[]))) (hk : T.fn k = true) (hl : args.toList.map (gv σ) = l.map some)
 (h : ∀ β w, (∀ i ∈ rb, ∀ b, lk σ.m i = some b → b.ok β w (β i)) → kn w → Calls P k (SV.cs β l).toArray w fun e w' => ∃ x, e = .returned (f.V x) ∧ Below w.heap.size w w' ∧ St w.heap.size (f.hx x) w') :
 FamC F n P ops ⟨dst, .call ⟨.value fo, args, ts⟩, ty, pos, after, none⟩ {σ with h := kn} ⟨.v v0, [], [], os fo ++ oss args.toList, rb⟩ f.V f.hx := by
 intro Q β a w K hs hK
 have hs' : Sees σ ⟨.v v0, [], [], os fo ++ oss args.toList, rb⟩ β a { w with drawn := w.drawn } → True := fun _ => trivial
 unfold StepB
 rw [if_pos (show Region.wanted ⟨dst, .call ⟨.value fo, args, ts⟩, ty, pos, after, none⟩ (yielded ops a.tmps) = true from rfl)]
 refine ⟨fun f _ => hF.fn f, ?_⟩
 have hsem : Oper.semAt F.round a.eval ⟨dst, .call ⟨.value fo, args, ts⟩, ty, pos, after, none⟩ = execOp a.eval ⟨dst, .call ⟨.value fo, args, ts⟩, ty, pos, after, none⟩ := Oper.semAt_eq _ _ _ (fun c hc => by cases hc)
 rw [hsem]
 have e1 := gv_eval hs (show gv {σ with h := kn} fo = _ by cases fo <;> exact hf) (fun k hk => List.mem_append_left _ hk)
 have hl' : args.toList.map (gv {σ with h := kn}) = l.map some := by
  rw [← hl]
  exact List.map_congr_left fun x _ => by cases x <;> rfl
 have e2 := map_toArray (gvs_eval hs hl' (fun k hk => List.mem_append_right _ hk))
 have hrun : (execOp a.eval ⟨dst, .call ⟨.value fo, args, ts⟩, ty, pos, after, none⟩).run P w = .ok (.enter k (SV.cs β l).toArray) w := by
  simp only [execOp, resolve, e1, SV.c, e2, Deferred.ofValue, invoke, Sem.run_bind, Sem.run_pure, Result.andThen_ok, T.fok k hk]
  simp
 rw [hrun, Oper.uponIn_enter]
 refine ⟨fun hd => (by rw [hF.depth] at hd; cases hd), ?_⟩
 refine hF.calls ((h β w hs.m hs.h).mono fun e w' ⟨x, he, hb, hst⟩ => ?_)
 subst he
 exact hK x w' hb hst
def vX (fs : Nat → Option Fm) (L0 : List Oper) : List Oper → Nat → Sg → List (Oper × Ef) → (World → Prop) → (Sg → List (Oper × Ef) → Prop) → Prop
 | [], _, σ, acc, _, K => drawB acc = true ∧ K σ acc
 | o :: r, j, σ, acc, kn, K => match dstB o σ.nt with
  | true => (match fs j with
   | none => vO T L0 o σ (fun E => gSplit (isG L0 j) E fun E => appK σ o.dst E fun σ' => vX fs L0 r (j + 1) σ' (acc ++ [(o, E)]) kn K) none
   | some f => famG T o σ kn f fun rs rb => appK σ o.dst ⟨.v (f.V f.y), [], [], rs, rb⟩ fun σ' => vX fs L0 r (j + 1) σ' (acc ++ [(o, ⟨.v (f.V f.y), [], [], rs, rb⟩)]) (fun w => kn w ∧ f.hx f.y w) K)
  | false => False
def knF (fs : Nat → Option Fm) : Nat → Nat → (World → Prop) → (World → Prop)
 | _, 0, kn => kn
 | j, i + 1, kn => knF fs (j + 1) i (match fs j with | none => kn | some f => fun w => kn w ∧ f.hx f.y w)
theorem vX_spec {F : Fence} {n : Nat} {ops : Array Oper} {L0 : List Oper} {fs : Nat → Option Fm} (hF : Wd F) (hL : ops.toList = L0) : ∀ (l : List Oper) (j : Nat) (σ : Sg) (acc : List (Oper × Ef)) (kn : World → Prop) (K : Sg → List (Oper × Ef) → Prop), σ.Ok → vX T fs L0 l j σ acc kn K →
 ∃ L : List (Oper × Ef), l = L.map (·.1) ∧ (∀ i p, fs (j + i) = none → L[i]? = some p → Link F n P ops p.1 (fin (L.take i) σ) p.2) ∧
  (∀ i f, fs (j + i) = some f → i < L.length → ∃ oc rs rb, L[i]? = some (oc, ⟨.v (f.V f.y), [], [], rs, rb⟩) ∧ (∀ d, oc.dst = some d → d < σ.nt) ∧ FamC F n P ops oc {fin (L.take i) σ with h := knF fs j i kn} ⟨.v (f.V f.y), [], [], rs, rb⟩ f.V f.hx) ∧
  K (fin L σ) (acc ++ L) ∧ (fin L σ).Ok ∧ drawB (acc ++ L) = true ∧ (∀ p ∈ L, ∃ m, σ.nb ≤ m ∧ p.2.fr = List.range' m p.2.fr.length)
 | [], _, σ, acc, kn, K, hσ, h => ⟨[], rfl, fun i p _ h => by simp at h, fun i f _ hi => by simp at hi, by simpa [fin] using h.2, hσ, by simpa using h.1, fun p hp => (by cases hp)⟩
 | o :: r, j, σ, acc, kn, K, hσ, h => by
  simp only [vX] at h
  split at h
  case h_2 => exact h.elim
  rename_i hd0
  have hd := dstB_spec hd0
  split at h
  · rename_i hfs
    rcases vO_spec T (n := n) hF hL hσ h with ⟨E, h1, h2, h3⟩ | ⟨kf, hkf, _⟩
    case inr => cases hkf
    obtain ⟨E', h4, h5, h6⟩ := gSplit_spec h1 h2 h3
    obtain ⟨L, g1, g2, g3, g4, g5, g6, g7⟩ := vX_spec hF hL r (j + 1) _ _ kn K (hσ.app (o := o) h5 hd) (appK_spec h4)
    refine ⟨(o, E') :: L, by simp [g1], fun i p hfi hp => ?_, fun i f hfi hi => ?_, by simpa [fin] using g4, g5, by simpa using g6, fun p hp => ?_⟩
    · cases i with
      | zero =>
       simp only [List.getElem?_cons_zero, Option.some.injEq] at hp
       subst hp
       exact h5.link hσ.wf hd h6
      | succ i => exact g2 i p (by rw [← hfi]; congr 1; omega) (by simpa using hp)
    · cases i with
      | zero => rw [Nat.add_zero, hfs] at hfi; cases hfi
      | succ i =>
       obtain ⟨oc, rs, rb, q1, q2, q3⟩ := g3 i f (by rw [← hfi]; congr 1; omega) (by simpa using hi)
       refine ⟨oc, rs, rb, by simpa using q1, q2, ?_⟩
       have : knF fs j (i + 1) kn = knF fs (j + 1) i kn := by simp only [knF, hfs]
       rw [this]
       exact q3
    · rcases List.mem_cons.1 hp with rfl | hp
      · exact ⟨σ.nb, Nat.le_refl _, h5.fr⟩
      · obtain ⟨m, q1, q2⟩ := g7 p hp
        exact ⟨m, Nat.le_trans (Nat.le_add_right _ _) q1, q2⟩
  · rename_i f hfs
    obtain ⟨dst, op, ty, pos, after, gd⟩ := o
    unfold famG at h
    split at h
    case h_2 => exact h.elim
    rename_i fo args ts h1 h2
    dsimp only at h1 h2
    subst h1 h2
    have hd := dstB_spec hd0
    split at h
    case h_2 => exact h.elim
    rename_i k first cap hf
    obtain ⟨⟨hk, hfi, hca⟩, h⟩ := h
    obtain rfl : first = #[] := Array.toList_eq_nil_iff.1 hfi
    obtain rfl : cap = #[] := Array.toList_eq_nil_iff.1 hca
    obtain ⟨l, h3, h4⟩ := gvs_spec h
    obtain ⟨rb, hc, h5⟩ := normK_spec h3
    have hE : EfOK σ ⟨.v (f.V f.y), [], [], os fo ++ oss args.toList, rb⟩ := ⟨rfl, rfl, fun i b h => (by cases h), fun i b h => (by cases h), fun i b b' h => (by cases h)⟩
    obtain ⟨L, g1, g2, g3, g4, g5, g6, g7⟩ := vX_spec hF hL r (j + 1) _ _ _ K (hσ.app (o := ⟨dst, .call ⟨.value fo, args, ts⟩, ty, pos, after, none⟩) hE hd) (appK_spec h5)
    refine ⟨(⟨dst, .call ⟨.value fo, args, ts⟩, ty, pos, after, none⟩, ⟨.v (f.V f.y), [], [], os fo ++ oss args.toList, rb⟩) :: L, by simp [g1], fun i p hfi hp => ?_, fun i f' hfi hi => ?_, by simpa [fin] using g4, g5, by simpa using g6, fun p hp => ?_⟩
    · cases i with
      | zero => rw [Nat.add_zero, hfs] at hfi; cases hfi
      | succ i => exact g2 i p (by rw [← hfi]; congr 1; omega) (by simpa using hp)
    · cases i with
      | zero =>
       rw [Nat.add_zero, hfs, Option.some.injEq] at hfi
       subst hfi
       exact ⟨_, _, _, rfl, hd, fam_op T hF hf hk h4 hc⟩
      | succ i =>
       obtain ⟨oc, rs, rb', q1, q2, q3⟩ := g3 i f' (by rw [← hfi]; congr 1; omega) (by simpa using hi)
       refine ⟨oc, rs, rb', by simpa using q1, q2, ?_⟩
       have : knF fs j (i + 1) kn = knF fs (j + 1) i (fun w => kn w ∧ f.hx f.y w) := by simp only [knF, hfs]
       rw [this]
       exact q3
    · rcases List.mem_cons.1 hp with rfl | hp
      · exact ⟨σ.nb, Nat.le_refl _, rfl⟩
      · obtain ⟨m, q1, q2⟩ := g7 p hp
        exact ⟨m, Nat.le_trans (Nat.le_add_right _ _) q1, q2⟩
end
def indR (bs : List Nat) (c : Nat) : Nat → List (Oper × Ef) → List (Oper × Ef) → Prop
 | _, [], [] => True
 | i, p :: l, q :: r => ((Nat.beq i c || (bs.getD i 0).testBit c) = true ∨ p = q) ∧ indR bs c (i + 1) l r
 | _, _, _ => False
theorem indR_spec {bs : List Nat} {c : Nat} : ∀ {l r : List (Oper × Ef)} {j : Nat}, indR bs c j l r → ∀ i, j + i ≠ c → (bs.getD (j + i) 0).testBit c = false → l[i]? = r[i]?
 | [], [], _, _, i, _, _ => rfl
 | p :: l, q :: r, j, h, i, hne, hd => by
  cases i with
  | zero =>
   rcases h.1 with h1 | h1
   · rw [Nat.add_zero] at hne hd
     have : Nat.beq j c = false := by
      cases hb : Nat.beq j c with
      | false => rfl
      | true => exact absurd (Nat.eq_of_beq_eq_true hb) hne
     rw [this, hd] at h1
     cases h1
   · simp [h1]
  | succ i =>
   simpa using indR_spec h.2 i (by omega) (by rw [show j + 1 + i = j + (i + 1) from by omega]; exact hd)
 | [], q :: r, _, h, _, _, _ => h.elim
 | p :: l, [], _, h, _, _, _ => h.elim
theorem Link.more {F : Fence} {n : Nat} {P : Program} {ops : Array Oper} {o : Oper} {σ : Sg} {E : Ef} (h : Link F n P ops o σ E) {h' : World → Prop} (hh : ∀ w, h' w → σ.h w) : Link F n P ops o {σ with h := h'} E :=
 ⟨fun Q β a w K hs hK => h.ok Q β a w K ⟨hs.t, hs.m, hs.inj, hh _ hs.h, hs.size, fun w' hc => hh _ (hs.st w' hc)⟩ hK, ⟨h.wf.old, h.wf.once⟩, ⟨h.av.t, h.av.g, h.av.m⟩, h.rb, h.dst⟩
def hdO : Code → Array Oper | .seq (.region _ o _) _ => o | _ => #[]
theorem beq_ne {a b : Nat} (h : a ≠ b) : Nat.beq a b = false := by
 cases hb : Nat.beq a b with
 | false => rfl
 | true => exact absurd (Nat.eq_of_beq_eq_true hb) h
def fs2 {α1 α2 : Type} (c1 c2 : Nat) (V1 : α1 → Value) (x1 : α1 → World → Prop) (V2 : α2 → Value) (x2 : α2 → World → Prop) (y1 : α1) (y2 : α2) (j : Nat) : Option Fm :=
 bif Nat.beq j c1 then some ⟨α1, V1, x1, y1⟩ else bif Nat.beq j c2 then some ⟨α2, V2, x2, y2⟩ else none
theorem VC_reg2 {P : Program} (T : Env P) (hm : P.follows .mixedOrders = true) {id : Nat} {ops : Array Oper} {σ : Sg} {Φ : Exit → Sg → Prop} {α1 α2 : Type} (c1 c2 : Nat) (V1 : α1 → Value) (x1 : α1 → World → Prop) (V2 : α2 → Value) (x2 : α2 → World → Prop) (d1 : α1) (d2 : α2)
 (LF : α1 → α2 → List (Oper × Ef)) (h12 : c1 < c2) (h3 : c2 < ops.size)
 (hv : ∀ y1 y2, vX T (fs2 c1 c2 V1 x1 V2 x2 y1 y2) ops.toList ops.toList 0 σ [] σ.h (fun σ' acc => acc = LF y1 y2 ∧ Φ .normal {σ' with h := fun w => (σ.h w ∧ x1 y1 w) ∧ x2 y2 w}))
 (hk1 : ∀ y1 y2, knF (fs2 c1 c2 V1 x1 V2 x2 y1 y2) 0 c1 σ.h = σ.h) (hk2 : ∀ y1 y2, knF (fs2 c1 c2 V1 x1 V2 x2 y1 y2) 0 c2 σ.h = fun w => σ.h w ∧ x1 y1 w)
 (hi1 : ∀ y y' y2, indR (bef ops.toList []) c1 0 (LF y y2) (LF y' y2)) (hi2 : ∀ y1 y y', indR (bef ops.toList []) c2 0 (LF y1 y) (LF y1 y'))
 (hd12 : ((bef ops.toList []).getD c2 0).testBit c1 = true) : VC P (.region id ops true) σ Φ := by
 intro F n X a w hF hlp hok hsat
 have hS := fun y1 y2 => vX_spec T (F := F) (n := n) (ops := ops) hF rfl _ 0 σ [] _ _ hok (hv y1 y2)
 have f1 : ∀ y1 y2, fs2 c1 c2 V1 x1 V2 x2 y1 y2 c1 = some ⟨α1, V1, x1, y1⟩ := fun _ _ => by unfold fs2; rw [Nat.beq_refl]; rfl
 have f2 : ∀ y1 y2, fs2 c1 c2 V1 x1 V2 x2 y1 y2 c2 = some ⟨α2, V2, x2, y2⟩ := fun _ _ => by unfold fs2; rw [beq_ne (by omega), Nat.beq_refl]; rfl
 have f0 : ∀ y1 y2 i, i ≠ c1 → i ≠ c2 → fs2 c1 c2 V1 x1 V2 x2 y1 y2 i = none := fun _ _ i e1 e2 => by unfold fs2; rw [beq_ne e1, beq_ne e2]; rfl
 have hA : ∀ y1 y2, ops.toList = (LF y1 y2).map (·.1) ∧ (∀ i p, i ≠ c1 → i ≠ c2 → (LF y1 y2)[i]? = some p → Link F n P ops p.1 (fin ((LF y1 y2).take i) σ) p.2) ∧
  (∀ i f, fs2 c1 c2 V1 x1 V2 x2 y1 y2 i = some f → i < (LF y1 y2).length → ∃ oc rs rb, (LF y1 y2)[i]? = some (oc, ⟨.v (f.V f.y), [], [], rs, rb⟩) ∧ (∀ d, oc.dst = some d → d < σ.nt) ∧ FamC F n P ops oc {fin ((LF y1 y2).take i) σ with h := knF (fs2 c1 c2 V1 x1 V2 x2 y1 y2) 0 i σ.h} ⟨.v (f.V f.y), [], [], rs, rb⟩ f.V f.hx) ∧
  Φ .normal {fin (LF y1 y2) σ with h := fun w => (σ.h w ∧ x1 y1 w) ∧ x2 y2 w} ∧ (fin (LF y1 y2) σ).Ok ∧ DrawOK (LF y1 y2) σ := fun y1 y2 => by
  obtain ⟨L, g1, g2, g3, ⟨g4, g4'⟩, g5, g6, g7⟩ := hS y1 y2
  rw [List.nil_append] at g4 g6
  subst g4
  simp only [drawB, Bool.and_eq_true] at g6
  refine ⟨g1, fun i p e1 e2 hp => g2 i p (by rw [Nat.zero_add]; exact f0 y1 y2 i e1 e2) hp, fun i f hfi hi => g3 i f (by rw [Nat.zero_add]; exact hfi) hi, g4', g5, g6.1, g6.2, fun p hp => ?_⟩
  obtain ⟨m, q1, q2⟩ := g7 p hp
  exact hok.wf.av q1 q2
 have hsz : ∀ y1 y2, (LF y1 y2).length = ops.size := fun y1 y2 => by
  have := congrArg List.length (hA y1 y2).1
  simpa using this.symm
 have hdr : ∀ y1 y2 h', DrawOK (LF y1 y2) {σ with h := h'} := fun y1 y2 h' => by
  obtain ⟨_, _, _, _, _, hd⟩ := hA y1 y2
  exact ⟨hd.edges, hd.pairs, fun p hp => ⟨(hd.av p hp).t, (hd.av p hp).g, (hd.av p hp).m⟩⟩
 have hlk : ∀ y1 y2 i p (h' : World → Prop), (∀ w, h' w → σ.h w) → i ≠ c1 → i ≠ c2 → (LF y1 y2)[i]? = some p → Link F n P ops p.1 (fin ((LF y1 y2).take i) {σ with h := h'}) p.2 := fun y1 y2 i p h' hh e1 e2 hp => by
  rw [fin_h]
  exact ((hA y1 y2).2.1 i p e1 e2 hp).more (fun w hw => by
   have : ∀ (L : List (Oper × Ef)) (τ : Sg), (fin L τ).h = τ.h := fun L => by
    induction L with
    | nil => intro τ; rfl
    | cons p L ih => intro τ; simp only [fin]; rw [ih]; rfl
   rw [this]; exact hh w hw)
 have hfm : ∀ y1 y2 i f, fs2 c1 c2 V1 x1 V2 x2 y1 y2 i = some f → i < ops.size → ∃ oc rs rb, (LF y1 y2)[i]? = some (oc, ⟨.v (f.V f.y), [], [], rs, rb⟩) ∧ (∀ d, oc.dst = some d → d < σ.nt) ∧ FamC F n P ops oc (fin ((LF y1 y2).take i) {σ with h := knF (fs2 c1 c2 V1 x1 V2 x2 y1 y2) 0 i σ.h}) ⟨.v (f.V f.y), [], [], rs, rb⟩ f.V f.hx := fun y1 y2 i f hf hi => by
  rw [fin_h]
  exact (hA y1 y2).2.2.1 i f hf (by rw [hsz]; exact hi)
 have hops : ∀ y1 y2 (i : Nat) (p : Oper × Ef), (LF y1 y2)[i]? = some p → ops[i]? = some p.1 := fun y1 y2 i p hp => by
  rw [← Array.getElem?_toList, (hA y1 y2).1, List.getElem?_map, hp]; rfl
 have G2 : ∀ y1 y2, GG X F n P ops (QΦ X Φ) (LF y1 y2) {σ with h := fun w => (σ.h w ∧ x1 y1 w) ∧ x2 y2 w} [c2, c1] [] := fun y1 y2 => by
  refine GG_end (hA y1 y2).1 (hdr _ _ _) (fun i p hi hp => ?_) fun a w hs => ?_
  · simp only [List.mem_cons, List.not_mem_nil, or_false, not_or] at hi
    exact hlk y1 y2 i p _ (fun w hw => hw.1.1) hi.2 hi.1 hp
  · rw [fin_h] at hs
    obtain ⟨_, _, _, q1, q2, _⟩ := hA y1 y2
    exact ⟨_, q1, ⟨⟨q2.wf.t, q2.wf.g, q2.wf.m⟩, q2.lt⟩, hs⟩
 have G1 : ∀ y1, GG X F n P ops (QΦ X Φ) (LF y1 d2) {σ with h := fun w => σ.h w ∧ x1 y1 w} [c1] [c2] := fun y1 => by
  obtain ⟨oc, rs, rb, q1, q2, q3⟩ := hfm y1 d2 c2 _ (f2 y1 d2) h3
  have hoc := hops _ _ _ _ q1
  refine GG_fam (fun y => LF y1 y) V2 x2 d2 c2 [] oc (fun y => (hA y1 y).1) (fun y => hdr _ _ _) (fun y => ?_) (fun y y' i hi hdp => ?_) (fun i p hi hic hdp hp => ?_) q2 (fun rs' rb' hE => ?_) (fun d hd => by cases hd) (fun y => G2 y1 y)
  · obtain ⟨oc', rs', rb', p1, _, _⟩ := hfm y1 y c2 _ (f2 y1 y) h3
    have := hops _ _ _ _ p1
    rw [hoc, Option.some.injEq] at this
    have he : oc = oc' := this
    subst he
    exact ⟨rs', rb', p1⟩
  · have := indR_spec (hi2 y1 y y') i (by rw [Nat.zero_add]; exact hi) (by rw [Nat.zero_add]; exact hdp)
    exact this
  · simp only [List.mem_cons, List.not_mem_nil, or_false] at hi
    exact hlk y1 d2 i p _ (fun w hw => hw.1) hi hic hp
  · rw [q1] at hE
    simp only [Option.some.injEq, Prod.mk.injEq, Ef.mk.injEq, true_and] at hE
    obtain ⟨rfl, rfl⟩ := hE
    rw [hk2] at q3
    exact q3
 have G0 : GG X F n P ops (QΦ X Φ) (LF d1 d2) σ [] [c1, c2] := by
  obtain ⟨oc, rs, rb, q1, q2, q3⟩ := hfm d1 d2 c1 _ (f1 d1 d2) (by omega)
  have hoc := hops _ _ _ _ q1
  refine GG_fam (fun y => LF y d2) V1 x1 d1 c1 [c2] oc (fun y => (hA y d2).1) (fun y => hdr _ _ σ.h) (fun y => ?_) (fun y y' i hi hdp => ?_) (fun i p hi hic hdp hp => ?_) q2 (fun rs' rb' hE => ?_) (fun d hd => ?_) (fun y => G1 y)
  · obtain ⟨oc', rs', rb', p1, _, _⟩ := hfm y d2 c1 _ (f1 y d2) (by omega)
    have := hops _ _ _ _ p1
    rw [hoc, Option.some.injEq] at this
    have he : oc = oc' := this
    subst he
    exact ⟨rs', rb', p1⟩
  · have := indR_spec (hi1 y y' d2) i (by rw [Nat.zero_add]; exact hi) (by rw [Nat.zero_add]; exact hdp)
    exact this
  · refine hlk d1 d2 i p σ.h (fun w hw => hw) hic (fun e => ?_) hp
    subst e; rw [hd12] at hdp; cases hdp
  · rw [q1] at hE
    simp only [Option.some.injEq, Prod.mk.injEq, Ef.mk.injEq, true_and] at hE
    obtain ⟨rfl, rfl⟩ := hE
    rw [hk1] at q3
    exact q3
  · simp only [List.mem_cons, List.not_mem_nil, or_false] at hd
    subst hd
    exact ⟨by omega, hd12⟩
 refine wpIn_region_any hm ?_
 have hrep : ∀ j, (Array.replicate ops.size false).getD j false = false := fun j => by
  simp only [Array.getD_eq_getD_getElem?, Array.getElem?_replicate]
  split <;> rfl
 refine G0 ops.size (Array.replicate ops.size false) a _ (by simp [hsz]) (by simp [List.countP_replicate]) (fun j hj => by rw [hrep] at hj; cases hj) (fun c hc => by cases hc) (fun c _ => hrep c) ?_
 obtain ⟨β, Dm, hs⟩ := hsat
 refine ⟨β, Dm, ?_⟩
 rw [foldS_none]
 · exact hs.drawn _
 · intro b hb
   simp only [Array.toList_replicate, List.mem_replicate] at hb
   exact hb.2
end Go.Proofs.Ythfabodamhdhaaa.Tx
namespace Go.Proofs.Ythfabodamhdhaaa
open Go Tx Go.RowKit
set_option linter.unusedSimpArgs false
set_option linter.unusedVariables false
theorem VC.pure {P : Program} {c : Code} {σ : Sg} {Φ : Exit → Sg → Prop} {p : Prop} (hp : ∀ w, σ.h w → p) (h : p → VC P c σ Φ) : VC P c σ Φ := by
 intro F n X a w hF hlp hok hsat
 obtain ⟨β, D, hs⟩ := hsat
 exact h (hp w (hs.h w (Chg.refl _ _))) F n X a w hF hlp hok ⟨β, D, hs⟩
set_option maxHeartbeats 8000000 in
set_option maxRecDepth 100000 in
theorem eats_ok (w : World) : Calls Try.prog 52 #[] w fun e w' => e = .returned (.bool true) ∧ Below w.heap.size w w' := by
 refine calls_val env mixed Try.func52 has52 Try.ntmps52 [] (by simp) ?_
 have h54 : ∀ (a : Addr) (w' : World), RdR (some a) 1 etD w' → Calls Try.prog 54 #[rdV (some a) 1 1 1] w' fun e w2 => ∃ z : Addr × Nat × Option Addr × Nat × Nat, e = .returned (.tuple #[.slice (some z.1) 1 z.2.1, iv 10, .slice z.2.2.1 z.2.2.2.1 z.2.2.2.2, iv 0]) ∧ Below w'.heap.size w' w2 ∧ St w'.heap.size (Rd 1 nF (.slice (some z.1) 1 z.2.1) [0]) w2 := fun a w' h =>
  (Buy_ok etD 1 (some a) 1 w' h et_ok).mono fun e w2 ⟨⟨⟨A, B, L, po, pc, to, tn, tc, cost, er⟩, hok⟩, h1, h2, h3⟩ => by
   obtain ⟨g1, g2, g3, a, g4⟩ := et_res hok
   dsimp only at g1 g2 g3 g4 h1 h3
   subst g1 g2 g3 g4
   exact ⟨(a, pc, to, tn, tc), h1, h2, h3.imp fun w q => (q rfl).1⟩
 repeat'
  conv => whnf
  first
   | refine zA ?_ | refine zB ?_ | refine zC ?_ | refine zD ?_ | refine zE ?_ | refine zF ?_ | refine zG ?_ | refine zH ?_ | refine zJ ?_ | refine zI ?_ | refine splT ?_ | refine splF ?_ | refine splNot ?_
   | ((first | refine splIn ?_ ?_ | refine splD ?_ ?_ | refine splE ?_ ?_ | refine splNE ?_ ?_) <;> intro hc <;> first | (exfalso; omega) | (exfalso; dsimp only at hc; omega) | skip)
   | ((with_reducible show CallEv _ _ 54 _ _ _ _ _); refine callF [0] (fun z : Addr × Nat × Option Addr × Nat × Nat => .tuple #[.slice (some z.1) 1 z.2.1, iv 10, .slice z.2.2.1 z.2.2.2.1 z.2.2.2.2, iv 0]) (fun z w2 => Rd 1 nF (.slice (some z.1) 1 z.2.1) [0] w2) (fun β w' hbk hbw => h54 ⟨β 0, 0, none⟩ w' ⟨Rd.of_cells (sz := 4) (f := mkF) (bs := etD) (fun _ => rfl) rfl (hbk 0 (by simp) _ rfl), Nat.le_refl _⟩) ?_; intro z)
   | refine Exists.intro (α := List Value) [iv 0] ⟨⟨rfl, fun w' hw' => rd_atz hw'.2 (k := 0) (b := 0) rfl 0 rfl⟩, ?_⟩
 all_goals first | (exfalso; omega) | exact ⟨fun β => rfl, fun w' h => (by repeat (first | exact h | replace h := h.1))⟩
theorem seqO_ln (x : To) : ∀ (n S a d : Nat), (seqO x n S a d).length ≤ n
 | 0, _, _, _ => Nat.le_refl _
 | n + 1, S, a, d => by
  unfold seqO
  cases spO x S a d with
  | none => exact Nat.zero_le _
  | some z =>
   obtain ⟨t, f, l⟩ := z
   have := seqO_ln x n (S ||| 2 ^ t) t (l + 1)
   simp only [List.length_cons]; omega
theorem bs_len {x : To} (h : toB x = true) : (bsS x).length ≤ 1000 := by
 have h1 := seqO_ln x x.T.length 0 0 0
 have h2 := (toB_n h).n
 show (seqO x x.T.length 0 0 0).length ≤ 1000
 omega
theorem equalB4 (d : Nat) (a b : Bool) (w : World) : (Op.equalIn (d + 1) 4 (.bool a) (.bool b)).run Try.prog w = .ok (a == b) w := by
 have hu : Try.prog.underlying 4 = some .bool := by kernel_rfl
 rw [Op.equalIn]
 simp [Sem.run_bind, Go.run_underlying hu w]
theorem eqlBv {a b va vb : Bool} {x y : Operand} {K : Value → Prop} (ha : a = va) (hb : b = vb) (h : K (.bool (va == vb))) : ∃ v, (∀ _ : Nat → Nat, RunIs Try.prog (do eqGuard .eql 4 x y (.bool a) (.bool b); binOp .eql 4 (.bool a) (.bool b)) v) ∧ K v := by
 subst ha hb
 exact ⟨_, fun _ w => by
  have h := equalB4 9999 a b w
  simp [eqGuard, binOp, Op.equal, Op.maxDepth, h], h⟩
set_option maxHeartbeats 8000000 in
set_option maxRecDepth 100000 in
theorem Fo4 (x : Tr) (n kp : Nat) (nd tr : Int) (po : Option Addr) (pc : Nat) (P : List Int) (w : World) (hT : TrIn x w) (hto : toB x.d = true) (hdn : x.days = n) (hn : 1 ≤ n ∧ n ≤ 30) (hPr : Rd 1 uF (.slice po P.length pc) P w) (hP : PrcOk P) (hnd : 0 ≤ nd ∧ nd ≤ 255) (htr : 0 ≤ tr ∧ tr ≤ 65535) (hkp : kp ≤ 255) (y : Option Addr × Nat) (hy : ((bsS x.d).length = 0 ∧ y = (none, 0)) ∨ (∃ a, y.1 = some a) ∧ (bsS x.d).length ≤ y.2) (h6 : ∀ (z : Addr × Nat) (b : {b : BuyR // b.Ok (mkD nd tr P (bsS x.d) n) (1 + kp % 10)}), VC Try.prog (rest 2 (rest 4 body16)) ⟨180, [(1, .v (.int .u8 nd)), (2, .v (.slice po P.length pc)), (3, .v (.int .u16 tr)), (4, .v (.int .u8 kp)), (5, .ptr 0 0), (11, .v (sV (bsS x.d).length y)), (14, .ptr 1 0), (15, .v (.slice b.1.po b.1.L.length b.1.pc)), (16, .v (iv b.1.cost)), (17, .v (.slice b.1.to b.1.tn b.1.tc)), (18, .v (iv b.1.er))], [(0, .cells x.l 25), (1, .cells [.v (.slice (some z.1) n z.2), .v (iv ((1 + kp % 10) : Nat))] 107)], 2, fun w2 => (Below w.heap.size w w2 ∧ Rd 3 spF (sV (bsS x.d).length y) (bsS x.d) w2) ∧ RdR (some z.1) z.2 (mkD nd tr P (bsS x.d) n) w2 ∧ b.1.In w2, z0⟩ (endΦ env Try.f16 fun s σ => (∀ β, s.c β = .bool true) ∧ ∀ w', σ.h w' → Below w.heap.size w w')) :
 VC Try.prog (rest 4 body16) ⟨180, [(1, .v (.int .u8 nd)), (2, .v (.slice po P.length pc)), (3, .v (.int .u16 tr)), (4, .v (.int .u8 kp)), (5, .ptr 0 0), (11, .v (sV (bsS x.d).length y))], [(0, .cells x.l 25)], 1, fun w2 => Below w.heap.size w w2 ∧ Rd 3 spF (sV (bsS x.d).length y) (bsS x.d) w2, z0⟩ (endΦ env Try.f16 fun s σ => (∀ β, s.c β = .bool true) ∧ ∀ w', σ.h w' → Below w.heap.size w w') := by
 have hR : RoadOk (mkD nd tr P (bsS x.d) n) (1 + kp % 10) := mkD_ok hP hnd htr hn (by omega) _
 have hR2 : RoadOk (mkD nd tr P ((bsS x.d).take ((bsS x.d).length - 1)) n) (1 + kp % 10) := mkD_ok hP hnd htr hn (by omega) _
 have hDl : (mkD nd tr P (bsS x.d) n).length = n := mkD_len _ _ _ _ _
 have hDl2 : (mkD nd tr P ((bsS x.d).take ((bsS x.d).length - 1)) n).length = n := mkD_len _ _ _ _ _
 have hsl : (bsS x.d).length ≤ 1000 := bs_len hto
 have h53 := fun w' (h : Below w.heap.size w w' ∧ Rd 3 spF (sV (bsS x.d).length y) (bsS x.d) w') => market_ok n (1 + kp % 10) y.1 y.2 (bsS x.d) nd tr po pc P w' h.2 (hPr.below h.1) hP hnd htr hn hsl
 have h54 := fun (z : Addr × Nat) w' (h : RdR (some z.1) z.2 (mkD nd tr P (bsS x.d) n) w') => Buy_ok (mkD nd tr P (bsS x.d) n) (1 + kp % 10) (some z.1) z.2 w' h hR
 rw [hDl] at h54
 have hkm : (kp : Int).tmod 10 = ((kp % 10 : Nat) : Int) := rfl
 refine VC.cutH env mixed 2 2 (fun q : (Addr × Nat) × {b : BuyR // b.Ok (mkD nd tr P (bsS x.d) n) (1 + kp % 10)} => [(1, .v (.int .u8 nd)), (2, .v (.slice po P.length pc)), (3, .v (.int .u16 tr)), (4, .v (.int .u8 kp)), (5, .ptr 0 0), (11, .v (sV (bsS x.d).length y)), (14, .ptr 1 0), (15, .v (.slice q.2.1.po q.2.1.L.length q.2.1.pc)), (16, .v (iv q.2.1.cost)), (17, .v (.slice q.2.1.to q.2.1.tn q.2.1.tc)), (18, .v (iv q.2.1.er))]) (fun q => [(0, .cells x.l 25), (1, .cells [.v (.slice (some q.1.1) n q.1.2), .v (iv ((1 + kp % 10) : Nat))] 107)]) (fun q w2 => (Below w.heap.size w w2 ∧ Rd 3 spF (sV (bsS x.d).length y) (bsS x.d) w2) ∧ RdR (some q.1.1) q.1.2 (mkD nd tr P (bsS x.d) n) w2 ∧ q.2.1.In w2) (fun _ => True) (fun _ _ => ⟨rfl, rfl⟩) ?_ (fun q _ => h6 q.1 q.2)
 clear h6 hR hR2 hT hto
 dsimp only [Tr.l]
 rw [hdn]
 repeat'
  conv => whnf
  first
   | refine zA ?_ | refine zB ?_ | refine zC ?_ | refine zD ?_ | refine zE ?_ | refine zF ?_ | refine zG ?_ | refine zH ?_ | refine zJ ?_ | refine zI ?_ | refine splT ?_ | refine splF ?_ | refine splNot ?_
   | ((first | refine splIn ?_ ?_ | refine splD ?_ ?_ | refine splE ?_ ?_ | refine splNE ?_ ?_) <;> intro hc <;> first | (exfalso; omega) | (exfalso; dsimp only at hc; omega) | skip)
   | refine cvE5 (by omega) ?_
   | refine Exists.intro (α := Int) ((kp % 10 : Nat) : Int) ⟨⟨by decide, hkm⟩, ?_⟩
   | ((with_reducible show CallEv _ _ 53 _ _ _ _ _); refine callF [] (fun z : Addr × Nat => rdV (some z.1) n z.2 (1 + kp % 10)) (fun z w2 => RdR (some z.1) z.2 (mkD nd tr P (bsS x.d) n) w2) (fun β w' _ hbw => h53 w' hbw) ?_; intro z)
   | ((with_reducible show CallEv _ _ 54 _ _ _ _ _); refine callF [] (fun b : {b : BuyR // b.Ok (mkD nd tr P (bsS x.d) n) (1 + kp % 10)} => b.1.v) (fun b w2 => b.1.In w2) (fun β w' _ hbw => h54 z w' hbw.2) ?_; intro b)
 all_goals first | (exfalso; omega) | exact ⟨rfl, (z, b), trivial, Ent.weak rfl ⟨rfl, rfl, rfl, rfl, rfl, rfl, rfl, rfl, rfl, rfl, rfl, trivial⟩ ⟨rfl, rfl, trivial⟩ fun w2 h => ⟨h.1.1, h.1.2, h.2⟩⟩
set_option maxHeartbeats 8000000 in
set_option maxRecDepth 100000 in
theorem Fo6 (x : Tr) (n kp : Nat) (nd tr : Int) (po : Option Addr) (pc : Nat) (P : List Int) (w : World) (hT : TrIn x w) (hto : toB x.d = true) (hdn : x.days = n) (hn : 1 ≤ n ∧ n ≤ 30) (hPr : Rd 1 uF (.slice po P.length pc) P w) (hP : PrcOk P) (hnd : 0 ≤ nd ∧ nd ≤ 255) (htr : 0 ≤ tr ∧ tr ≤ 65535) (hkp : kp ≤ 255) (y : Option Addr × Nat) (hy : ((bsS x.d).length = 0 ∧ y = (none, 0)) ∨ (∃ a, y.1 = some a) ∧ (bsS x.d).length ≤ y.2) (z : Addr × Nat) (b : {b : BuyR // b.Ok (mkD nd tr P (bsS x.d) n) (1 + kp % 10)}) (hS : (bsS x.d).length = 0) :
 VC Try.prog (rest 2 (rest 4 body16)) ⟨180, [(1, .v (.int .u8 nd)), (2, .v (.slice po P.length pc)), (3, .v (.int .u16 tr)), (4, .v (.int .u8 kp)), (5, .ptr 0 0), (11, .v (sV (bsS x.d).length y)), (14, .ptr 1 0), (15, .v (.slice b.1.po b.1.L.length b.1.pc)), (16, .v (iv b.1.cost)), (17, .v (.slice b.1.to b.1.tn b.1.tc)), (18, .v (iv b.1.er))], [(0, .cells x.l 25), (1, .cells [.v (.slice (some z.1) n z.2), .v (iv ((1 + kp % 10) : Nat))] 107)], 2, fun w2 => (Below w.heap.size w w2 ∧ Rd 3 spF (sV (bsS x.d).length y) (bsS x.d) w2) ∧ RdR (some z.1) z.2 (mkD nd tr P (bsS x.d) n) w2 ∧ b.1.In w2, z0⟩ (endΦ env Try.f16 fun s σ => (∀ β, s.c β = .bool true) ∧ ∀ w', σ.h w' → Below w.heap.size w w') := by
 obtain ⟨⟨A, B, L, bo, bc, to, tn, tc, cost, er⟩, ⟨⟨hby, hpo⟩, hr⟩⟩ := b
 dsimp only at hby hpo hr ⊢
 have hS0 : (bsS x.d) = [] := List.length_eq_zero_iff.1 hS
 rw [hS0] at hby
 obtain ⟨hc1, hc2⟩ := closed_B hn.1 hby
 clear hy
 have her : (nd = 0 ∧ er = 0) ∨ (0 < nd ∧ er = 7) := by
  rcases hr with ⟨g1, g2, _⟩ | ⟨g1, g2, _⟩
  · refine .inr ⟨?_, g1⟩
    rcases Int.lt_or_le 0 nd with h | h
    · exact h
    · have := hc1 (by omega); omega
  · refine .inl ⟨?_, g1⟩
    by_cases h : nd = 0
    · exact h
    · have := hc2 h; omega
 refine VC.of env mixed ?_
 rw [hS]
 clear hr hby hpo hc1 hc2 hT hto
 rcases her with ⟨rfl, rfl⟩ | ⟨h0, rfl⟩
 all_goals
  repeat'
   conv => whnf
   first
    | refine zA ?_ | refine zB ?_ | refine zC ?_ | refine zD ?_ | refine zE ?_ | refine zF ?_ | refine zG ?_ | refine zH ?_ | refine zJ ?_ | refine zI ?_ | refine splT ?_ | refine splF ?_ | refine splNot ?_
    | ((first | refine splIn ?_ ?_ | refine splD ?_ ?_ | refine splE ?_ ?_ | refine splNE ?_ ?_) <;> intro hc <;> first | (exfalso; omega) | (exfalso; dsimp only at hc; omega) | skip)
    | ((with_reducible show CallEv _ _ 52 _ _ _ _ _); refine callE (k := 52) (fun β w' hbw => eats_ok w') ?_)
    | refine eqlBv rfl (decide_eq_false (by omega)) ?_
    | refine eqlBv rfl (decide_eq_true (by omega)) ?_
  all_goals first | (exfalso; omega) | exact ⟨fun β => rfl, fun w' h => (by repeat (first | exact h | replace h := h.1))⟩
theorem rd_take0 {α : Type} {sz : Nat} {f : α → List Value} {o : Option Addr} {c n : Nat} {L : List α} {w : World} (h : Rd sz f (.slice o L.length c) L w) (hn : n ≤ L.length) (h1 : 1 ≤ L.length) : Rd sz f (.slice o (L.take n).length c) (L.take n) w := by
 rw [show (L.take n).length = n from by rw [List.length_take, Nat.min_eq_left hn]]
 rcases h with ⟨h2, h3⟩ | ⟨ad, d, h2, h3⟩
 · rw [h3] at h1; simp at h1
 · simp only [Value.slice.injEq] at h2
   obtain ⟨rfl, _, rfl⟩ := h2
   refine .inr ⟨ad, c, by rw [List.length_take, Nat.min_eq_left hn], fun k b hk => h3 k b ?_⟩
   have := (List.getElem?_eq_some_iff.1 hk).1
   rw [List.length_take] at this
   rwa [List.getElem?_take_of_lt (by omega)] at hk
theorem c16_7 : rest 1 (rest 6 body16) = .seq (.region 10 (hdO (rest 7 body16)) true) (rest 8 body16) := by kernel_rfl
set_option maxHeartbeats 8000000 in
set_option maxRecDepth 100000 in
theorem Fo7 (x : Tr) (n kp : Nat) (nd tr : Int) (po : Option Addr) (pc : Nat) (P : List Int) (w : World) (hT : TrIn x w) (hto : toB x.d = true) (hdn : x.days = n) (hn : 1 ≤ n ∧ n ≤ 30) (hPr : Rd 1 uF (.slice po P.length pc) P w) (hP : PrcOk P) (hnd : 0 ≤ nd ∧ nd ≤ 255) (htr : 0 ≤ tr ∧ tr ≤ 65535) (hkp : kp ≤ 255) (y : Option Addr × Nat) (hy : ((bsS x.d).length = 0 ∧ y = (none, 0)) ∨ (∃ a, y.1 = some a) ∧ (bsS x.d).length ≤ y.2) (z : Addr × Nat) (b : {b : BuyR // b.Ok (mkD nd tr P (bsS x.d) n) (1 + kp % 10)}) (hS : (bsS x.d).length ≠ 0)
 (h8 : ∀ c2 e2 : Int, ((e2 = 7 ∧ (b.1.er = 7 ∨ b.1.er = 0)) ∨ (e2 = 0 ∧ b.1.er = 0 ∧ b.1.cost ≤ c2)) → VC Try.prog (rest 8 body16) ⟨180, [(1, .v (.int .u8 nd)), (2, .v (.slice po P.length pc)), (3, .v (.int .u16 tr)), (4, .v (.int .u8 kp)), (5, .ptr 0 0), (11, .v (sV (bsS x.d).length y)), (14, .ptr 1 0), (15, .v (.slice b.1.po b.1.L.length b.1.pc)), (16, .v (iv b.1.cost)), (17, .v (.slice b.1.to b.1.tn b.1.tc)), (18, .v (iv b.1.er)), (20, .v (iv c2)), (22, .v (iv e2))], [(0, .cells x.l 25), (1, .cells [.v (.slice (some z.1) n z.2), .v (iv ((1 + kp % 10) : Nat))] 107)], 2, fun w2 => (Below w.heap.size w w2 ∧ Rd 3 spF (sV (bsS x.d).length y) (bsS x.d) w2) ∧ RdR (some z.1) z.2 (mkD nd tr P (bsS x.d) n) w2 ∧ b.1.In w2, z0⟩ (endΦ env Try.f16 fun s σ => (∀ β, s.c β = .bool true) ∧ ∀ w', σ.h w' → Below w.heap.size w w')) :
 VC Try.prog (rest 1 (rest 6 body16)) ⟨180, [(1, .v (.int .u8 nd)), (2, .v (.slice po P.length pc)), (3, .v (.int .u16 tr)), (4, .v (.int .u8 kp)), (5, .ptr 0 0), (11, .v (sV (bsS x.d).length y)), (14, .ptr 1 0), (15, .v (.slice b.1.po b.1.L.length b.1.pc)), (16, .v (iv b.1.cost)), (17, .v (.slice b.1.to b.1.tn b.1.tc)), (18, .v (iv b.1.er))], [(0, .cells x.l 25), (1, .cells [.v (.slice (some z.1) n z.2), .v (iv ((1 + kp % 10) : Nat))] 107)], 2, fun w2 => (Below w.heap.size w w2 ∧ Rd 3 spF (sV (bsS x.d).length y) (bsS x.d) w2) ∧ RdR (some z.1) z.2 (mkD nd tr P (bsS x.d) n) w2 ∧ b.1.In w2, z0⟩ (endΦ env Try.f16 fun s σ => (∀ β, s.c β = .bool true) ∧ ∀ w', σ.h w' → Below w.heap.size w w') := by
 have hR : RoadOk (mkD nd tr P (bsS x.d) n) (1 + kp % 10) := mkD_ok hP hnd htr hn (by omega) _
 have hR2 : RoadOk (mkD nd tr P ((bsS x.d).take ((bsS x.d).length - 1)) n) (1 + kp % 10) := mkD_ok hP hnd htr hn (by omega) _
 have hDl : (mkD nd tr P (bsS x.d) n).length = n := mkD_len _ _ _ _ _
 have hDl2 : (mkD nd tr P ((bsS x.d).take ((bsS x.d).length - 1)) n).length = n := mkD_len _ _ _ _ _
 have hsl : (bsS x.d).length ≤ 1000 := bs_len hto
 have hlast := bs_last hto
 have hkm : (kp : Int).tmod 10 = ((kp % 10 : Nat) : Int) := rfl
 obtain ⟨yo, yc⟩ := y
 obtain ⟨⟨a, rfl⟩, hyc⟩ : (∃ a, yo = some a) ∧ (bsS x.d).length ≤ yc := by
  rcases hy with ⟨h, _⟩ | h
  · exact absurd h hS
  · exact h
 clear hy
 have h53 := fun w' (h : (Below w.heap.size w w' ∧ Rd 3 spF (sV (bsS x.d).length (some a, yc)) (bsS x.d) w') ∧ RdR (some z.1) z.2 (mkD nd tr P (bsS x.d) n) w' ∧ b.1.In w') => market_ok n (1 + kp % 10) (some a) yc ((bsS x.d).take ((bsS x.d).length - 1)) nd tr po pc P w' (rd_take0 h.1.2 (by omega) (by omega)) (hPr.below h.1.1) hP hnd htr hn (by rw [List.length_take]; omega)
 rw [show ((bsS x.d).take ((bsS x.d).length - 1)).length = (bsS x.d).length - 1 from by rw [List.length_take]; omega] at h53
 have h54 : ∀ (z : Addr × Nat) w', RdR (some z.1) z.2 (mkD nd tr P ((bsS x.d).take ((bsS x.d).length - 1)) n) w' → Calls Try.prog 54 #[rdV (some z.1) n z.2 (1 + kp % 10)] w' fun e w2 => ∃ y : BuyR, e = .returned y.v ∧ Below w'.heap.size w' w2 ∧ St w'.heap.size (fun _ => y.Ok (mkD nd tr P ((bsS x.d).take ((bsS x.d).length - 1)) n) (1 + kp % 10)) w2 := fun z w' h => by
  have := Buy_ok (mkD nd tr P ((bsS x.d).take ((bsS x.d).length - 1)) n) (1 + kp % 10) (some z.1) z.2 w' h hR2
  rw [hDl2] at this
  exact this.mono fun e w2 ⟨y, g1, g2, g3⟩ => ⟨y.1, g1, g2, fun _ _ => y.2⟩
 have hcmp : ∀ y : BuyR, y.Ok (mkD nd tr P ((bsS x.d).take ((bsS x.d).length - 1)) n) (1 + kp % 10) → ((y.er = 7 ∧ (b.1.er = 7 ∨ b.1.er = 0)) ∨ (y.er = 0 ∧ b.1.er = 0 ∧ b.1.cost ≤ y.cost)) := fun y hyo => by
  have hm := (fr_mono (by rw [hDl, hDl2]) (fun t => mk_nd t) (fun t ho => mk_less hlast t ho) b.2.1.1 hyo.1.1 n 0 (by rw [hDl]; rfl) (Nat.zero_le _)).2
  rcases b.2.2 with ⟨g1, g2, _⟩ | ⟨g1, g2, g3, _⟩
  · rcases hyo.2 with ⟨k1, k2, _⟩ | ⟨k1, k2, k3, _⟩
    · exact .inl ⟨k1, .inl g1⟩
    · omega
  · rcases hyo.2 with ⟨k1, k2, _⟩ | ⟨k1, k2, k3, _⟩
    · exact .inl ⟨k1, .inr g1⟩
    · exact .inr ⟨k1, g1, by omega⟩
 rw [c16_7]
 have hcont : ∀ c2 e2 : Int, VC Try.prog (rest 8 body16) ⟨180, [(1, .v (.int .u8 nd)), (2, .v (.slice po P.length pc)), (3, .v (.int .u16 tr)), (4, .v (.int .u8 kp)), (5, .ptr 0 0), (11, .v (sV (bsS x.d).length (some a, yc))), (14, .ptr 1 0), (15, .v (.slice b.1.po b.1.L.length b.1.pc)), (16, .v (iv b.1.cost)), (17, .v (.slice b.1.to b.1.tn b.1.tc)), (18, .v (iv b.1.er)), (20, .v (iv c2)), (22, .v (iv e2))], [(0, .cells x.l 25), (1, .cells [.v (.slice (some z.1) n z.2), .v (iv ((1 + kp % 10) : Nat))] 107)], 2, fun w2 => ((Below w.heap.size w w2 ∧ Rd 3 spF (sV (bsS x.d).length (some a, yc)) (bsS x.d) w2) ∧ RdR (some z.1) z.2 (mkD nd tr P (bsS x.d) n) w2 ∧ b.1.In w2) ∧ ((e2 = 7 ∧ (b.1.er = 7 ∨ b.1.er = 0)) ∨ (e2 = 0 ∧ b.1.er = 0 ∧ b.1.cost ≤ c2)), z0⟩ (endΦ env Try.f16 fun s σ => (∀ β, s.c β = .bool true) ∧ ∀ w', σ.h w' → Below w.heap.size w w') := fun c2 e2 =>
  VC.pure (p := (e2 = 7 ∧ (b.1.er = 7 ∨ b.1.er = 0)) ∨ (e2 = 0 ∧ b.1.er = 0 ∧ b.1.cost ≤ c2)) (fun w h => h.2) fun hp => VC.ent (h8 c2 e2 hp) (Ent.weak rfl ⟨rfl, rfl, rfl, rfl, rfl, rfl, rfl, rfl, rfl, rfl, rfl, rfl, rfl, trivial⟩ ⟨rfl, rfl, trivial⟩ fun w h => h.1) (okB rfl rfl rfl)
 refine VC.seq (f := fun σ' => ∃ c2 e2 : Int, Ent σ' ⟨180, [(1, .v (.int .u8 nd)), (2, .v (.slice po P.length pc)), (3, .v (.int .u16 tr)), (4, .v (.int .u8 kp)), (5, .ptr 0 0), (11, .v (sV (bsS x.d).length (some a, yc))), (14, .ptr 1 0), (15, .v (.slice b.1.po b.1.L.length b.1.pc)), (16, .v (iv b.1.cost)), (17, .v (.slice b.1.to b.1.tn b.1.tc)), (18, .v (iv b.1.er)), (20, .v (iv c2)), (22, .v (iv e2))], [(0, .cells x.l 25), (1, .cells [.v (.slice (some z.1) n z.2), .v (iv ((1 + kp % 10) : Nat))] 107)], 2, fun w2 => ((Below w.heap.size w w2 ∧ Rd 3 spF (sV (bsS x.d).length (some a, yc)) (bsS x.d) w2) ∧ RdR (some z.1) z.2 (mkD nd tr P (bsS x.d) n) w2 ∧ b.1.In w2) ∧ ((e2 = 7 ∧ (b.1.er = 7 ∨ b.1.er = 0)) ∨ (e2 = 0 ∧ b.1.er = 0 ∧ b.1.cost ≤ c2)), z0⟩) ?_ (fun σ' ⟨c2, e2, hz⟩ => VC.ent (hcont c2 e2) hz (okB rfl rfl rfl))
 clear h8 hcont hlast hR hR2 hT hto hP hDl hDl2
 dsimp only [Tr.l]
 rw [hdn]
 generalize hsn : (bsS x.d).length = sn at *
 have hks : ((sn : Int) - 1) = ((sn - 1 : Nat) : Int) := by omega
 apply VC_reg2 env mixed 14 15 (fun z : Addr × Nat => rdV (some z.1) n z.2 (1 + kp % 10)) (fun z w3 => RdR (some z.1) z.2 (mkD nd tr P ((bsS x.d).take (sn - 1)) n) w3) (fun y : BuyR => y.v) (fun y _ => y.Ok (mkD nd tr P ((bsS x.d).take (sn - 1)) n) (1 + kp % 10)) (⟨0, 0, none⟩, 0) ⟨[], [], [], none, 0, none, 0, 0, 0, 0⟩
 case h12 => decide
 case h3 => exact Nat.le_of_ble_eq_true (by kernel_rfl)
 case hd12 => kernel_rfl
 case hv =>
  intro z2 y2
  repeat'
   conv => whnf
   first
    | refine zA ?_ | refine zB ?_ | refine zC ?_ | refine zD ?_ | refine zE ?_ | refine zF ?_ | refine zG ?_ | refine zH ?_ | refine zJ ?_ | refine zI ?_ | refine splT ?_ | refine splF ?_ | refine splNot ?_
    | ((first | refine splIn ?_ ?_ | refine splD ?_ ?_ | refine splE ?_ ?_ | refine splNE ?_ ?_) <;> intro hc <;> first | (exfalso; omega) | (exfalso; dsimp only at hc; omega) | skip)
    | refine And.intro (a := (_ : Bool) = true ∧ (_ : List _) = [] ∧ (_ : List _) = []) ⟨rfl, rfl, rfl⟩ ?_
    | refine slHi env (z := sn - 1) rfl (by show some (SV.v (Value.int IntKind.i64 ((sn : Int) - 1))) = _; rw [hks]) rfl rfl (by omega) rfl ?_
    | refine cvE5 (by omega) ?_
    | refine Exists.intro (α := Int) ((kp % 10 : Nat) : Int) ⟨⟨by decide, hkm⟩, ?_⟩
    | (with_reducible show FamEv _ _ _ 53 _ _ _); refine FamEv.mk [] (fun β w' _ hbw => h53 w' hbw) ?_
  all_goals conv => whnf
  refine FamEv.mk [] (fun β w' _ hbw => h54 z2 w' hbw.2) ?_
  conv => whnf
  refine zA ?_
  refine ⟨?_, y2.cost, y2.er, Ent.weak rfl ⟨rfl, rfl, rfl, rfl, rfl, rfl, rfl, rfl, rfl, rfl, rfl, rfl, rfl, trivial⟩ ⟨rfl, rfl, trivial⟩ fun w2 h => ⟨h.1.1, hcmp y2 h.2⟩⟩
  simp only [List.nil_append, List.cons_append, List.append_assoc]
  exact rfl
 case hk1 => intros; rfl
 case hk2 => intros; rfl
 case hi1 => exact fun _ _ _ => ⟨Or.inr rfl, Or.inr rfl, Or.inr rfl, Or.inr rfl, Or.inr rfl, Or.inr rfl, Or.inr rfl, Or.inr rfl, Or.inr rfl, Or.inr rfl, Or.inr rfl, Or.inr rfl, Or.inr rfl, Or.inr rfl, Or.inl (by kernel_rfl), Or.inl (by kernel_rfl), Or.inl (by kernel_rfl), Or.inl (by kernel_rfl), Or.inl (by kernel_rfl), Or.inl (by kernel_rfl), Or.inl (by kernel_rfl), Or.inl (by kernel_rfl), Or.inl (by kernel_rfl), Or.inl (by kernel_rfl), Or.inl (by kernel_rfl), trivial⟩
 case hi2 => exact fun _ _ _ => ⟨Or.inr rfl, Or.inr rfl, Or.inr rfl, Or.inr rfl, Or.inr rfl, Or.inr rfl, Or.inr rfl, Or.inr rfl, Or.inr rfl, Or.inr rfl, Or.inr rfl, Or.inr rfl, Or.inr rfl, Or.inr rfl, Or.inr rfl, Or.inl (by kernel_rfl), Or.inl (by kernel_rfl), Or.inl (by kernel_rfl), Or.inl (by kernel_rfl), Or.inl (by kernel_rfl), Or.inl (by kernel_rfl), Or.inl (by kernel_rfl), Or.inl (by kernel_rfl), Or.inl (by kernel_rfl), Or.inl (by kernel_rfl), trivial⟩
set_option maxHeartbeats 8000000 in
set_option maxRecDepth 100000 in
theorem Fo8 (x : Tr) (n kp : Nat) (nd tr : Int) (po : Option Addr) (pc : Nat) (P : List Int) (w : World) (hT : TrIn x w) (hto : toB x.d = true) (hdn : x.days = n) (hn : 1 ≤ n ∧ n ≤ 30) (hPr : Rd 1 uF (.slice po P.length pc) P w) (hP : PrcOk P) (hnd : 0 ≤ nd ∧ nd ≤ 255) (htr : 0 ≤ tr ∧ tr ≤ 65535) (hkp : kp ≤ 255) (y : Option Addr × Nat) (hy : ((bsS x.d).length = 0 ∧ y = (none, 0)) ∨ (∃ a, y.1 = some a) ∧ (bsS x.d).length ≤ y.2) (z : Addr × Nat) (b : {b : BuyR // b.Ok (mkD nd tr P (bsS x.d) n) (1 + kp % 10)}) (hS : (bsS x.d).length ≠ 0) (c2 e2 : Int) (hce : (e2 = 7 ∧ (b.1.er = 7 ∨ b.1.er = 0)) ∨ (e2 = 0 ∧ b.1.er = 0 ∧ b.1.cost ≤ c2)) :
 VC Try.prog (rest 8 body16) ⟨180, [(1, .v (.int .u8 nd)), (2, .v (.slice po P.length pc)), (3, .v (.int .u16 tr)), (4, .v (.int .u8 kp)), (5, .ptr 0 0), (11, .v (sV (bsS x.d).length y)), (14, .ptr 1 0), (15, .v (.slice b.1.po b.1.L.length b.1.pc)), (16, .v (iv b.1.cost)), (17, .v (.slice b.1.to b.1.tn b.1.tc)), (18, .v (iv b.1.er)), (20, .v (iv c2)), (22, .v (iv e2))], [(0, .cells x.l 25), (1, .cells [.v (.slice (some z.1) n z.2), .v (iv ((1 + kp % 10) : Nat))] 107)], 2, fun w2 => (Below w.heap.size w w2 ∧ Rd 3 spF (sV (bsS x.d).length y) (bsS x.d) w2) ∧ RdR (some z.1) z.2 (mkD nd tr P (bsS x.d) n) w2 ∧ b.1.In w2, z0⟩ (endΦ env Try.f16 fun s σ => (∀ β, s.c β = .bool true) ∧ ∀ w', σ.h w' → Below w.heap.size w w') := by
 obtain ⟨yo, yc⟩ := y
 obtain ⟨⟨a, rfl⟩, hyc⟩ : (∃ a, yo = some a) ∧ (bsS x.d).length ≤ yc := by
  rcases hy with ⟨h, _⟩ | h
  · exact absurd h hS
  · exact h
 clear hy
 have hR : RoadOk (mkD nd tr P (bsS x.d) n) (1 + kp % 10) := mkD_ok hP hnd htr hn (by omega) _
 have hDl : (mkD nd tr P (bsS x.d) n).length = n := mkD_len _ _ _ _ _
 obtain ⟨⟨A, B, L, bo, bc, to, tn, tc, cost, er⟩, ⟨⟨hby, hpo⟩, hr⟩⟩ := b
 dsimp only at hby hpo hr hce ⊢
 rcases hr with ⟨rfl, _⟩ | ⟨rfl, g2, g3, g4, g5⟩
 · obtain rfl : e2 = 7 := by omega
   refine VC.of env mixed ?_
   clear hby hpo hce hR hDl hT hto
   repeat'
    conv => whnf
    first
     | refine zA ?_ | refine zB ?_ | refine zC ?_ | refine zD ?_ | refine zE ?_ | refine zF ?_ | refine zG ?_ | refine zH ?_ | refine zJ ?_ | refine zI ?_ | refine splT ?_ | refine splF ?_ | refine splNot ?_
     | ((first | refine splIn ?_ ?_ | refine splD ?_ ?_ | refine splE ?_ ?_ | refine splNE ?_ ?_) <;> intro hc <;> first | (exfalso; omega) | (exfalso; dsimp only at hc; omega) | skip)
     | ((with_reducible show CallEv _ _ 52 _ _ _ _ _); refine callE (k := 52) (fun β w' hbw => eats_ok w') ?_)
   all_goals first | (exfalso; omega) | exact ⟨fun β => rfl, fun w' h => (by repeat (first | exact h | replace h := h.1))⟩
 · rw [hDl] at g5
   subst g5
   have hPF := g4.facts hby
   have hLl := hPF.len
   rw [hDl] at hLl
   have h55 : ∀ w', ((Below w.heap.size w w' ∧ Rd 3 spF (sV (bsS x.d).length (some a, yc)) (bsS x.d) w') ∧ RdR (some z.1) z.2 (mkD nd tr P (bsS x.d) n) w' ∧ BuyR.In ⟨A, B, L, bo, bc, to, n + 1, tc, cost, 0⟩ w') → Calls Try.prog 55 #[rdV (some z.1) n z.2 (1 + kp % 10), .slice bo L.length bc, iv cost, .slice to (n + 1) tc] w' fun e w2 => e = .returned (.bool true) ∧ Below w'.heap.size w' w2 := fun w' h => by
    have := ProveBuy_ok (mkD nd tr P (bsS x.d) n) (1 + kp % 10) (some z.1) z.2 A B L bo to bc tc w' h.2.1 hR hby g4 (h.2.2 rfl).1 (by rw [hDl]; exact (h.2.2 rfl).2)
    rw [hDl, ← g3] at this
    exact this
   have hon : ∀ (i m : Nat), L[i]? = some m → (bsS x.d).any (fun s => decide (s.2.1 ≤ (m : Int)) && decide ((m : Int) ≤ s.2.2)) = true := fun i m hm => plan_on hPF hm
   have hsl : (bsS x.d).length ≤ 1000 := bs_len hto
   refine VC.of env mixed ?_
   clear hby hR hDl hT hto g4 hPF
   repeat'
    conv => whnf
    first
     | refine zA ?_ | refine zB ?_ | refine zC ?_ | refine zD ?_ | refine zE ?_ | refine zF ?_ | refine zG ?_ | refine zH ?_ | refine zJ ?_ | refine zI ?_ | refine splT ?_ | refine splF ?_ | refine splNot ?_
     | ((first | refine splIn ?_ ?_ | refine splD ?_ ?_ | refine splE ?_ ?_ | refine splNE ?_ ?_) <;> intro hc <;> first | (exfalso; omega) | (exfalso; dsimp only at hc; omega) | skip)
   all_goals first | (exfalso; omega) | skip
   refine loopE (fun i : Nat => [(1, .v (.int .u8 nd)), (2, .v (.slice po P.length pc)), (3, .v (.int .u16 tr)), (4, .v (.int .u8 kp)), (5, .ptr 0 0), (11, .v (.slice (some a) (bsS x.d).length yc)), (14, .ptr 1 0), (15, .v (.slice bo L.length bc)), (16, .v (iv cost)), (17, .v (.slice to (n + 1) tc)), (18, .v (iv 0)), (20, .v (iv c2)), (22, .v (iv e2)), (23, .v (iv i))]) (fun _ => [(0, .cells x.l 25), (1, .cells [.v (.slice (some z.1) n z.2), .v (iv ((1 + kp % 10) : Nat))] 107)]) (fun i => i ≤ L.length) (fun i => L.length - i) 0 (Nat.zero_le _) ⟨rfl, rfl, rfl, rfl, rfl, rfl, rfl, rfl, rfl, rfl, rfl, rfl, rfl, rfl, trivial⟩ ⟨rfl, rfl, trivial⟩ (fun _ => ⟨rfl, rfl⟩) ?_
   intro i hi
   rcases Nat.lt_or_ge i L.length with hil | hil
   · obtain ⟨m, hm⟩ : ∃ m, L[i]? = some m := ⟨_, List.getElem?_eq_getElem hil⟩
     obtain ⟨ap, rfl⟩ := hpo (fun e => by rw [e] at hil; simp at hil)
     have hon1 := hon i m hm
     have em := fun (w' : World) (hw' : (Below w.heap.size w w' ∧ Rd 3 spF (sV (bsS x.d).length (some a, yc)) (bsS x.d) w') ∧ RdR (some z.1) z.2 (mkD nd tr P (bsS x.d) n) w' ∧ BuyR.In ⟨A, B, L, some ap, bc, to, n + 1, tc, cost, 0⟩ w') => rd_ati (hw'.2.2 rfl).1 hm
     repeat'
      conv => whnf
      first
       | refine zA ?_ | refine zB ?_ | refine zC ?_ | refine zD ?_ | refine zE ?_ | refine zF ?_ | refine zG ?_ | refine zH ?_ | refine zJ ?_ | refine zI ?_ | refine splT ?_ | refine splF ?_ | refine splNot ?_
       | ((first | refine splIn ?_ ?_ | refine splD ?_ ?_ | refine splE ?_ ?_ | refine splNE ?_ ?_) <;> intro hc <;> first | (exfalso; omega) | (exfalso; dsimp only at hc; omega) | skip)
     all_goals first | (exfalso; omega) | skip
     refine loopE (fun k : Nat => [(1, .v (.int .u8 nd)), (2, .v (.slice po P.length pc)), (3, .v (.int .u16 tr)), (4, .v (.int .u8 kp)), (5, .ptr 0 0), (11, .v (.slice (some a) (bsS x.d).length yc)), (14, .ptr 1 0), (15, .v (.slice (some ap) L.length bc)), (16, .v (iv cost)), (17, .v (.slice to (n + 1) tc)), (18, .v (iv 0)), (20, .v (iv c2)), (22, .v (iv e2)), (23, .v (iv i)), (24, .v (.bool (((bsS x.d).take k).any (fun s => decide (s.2.1 ≤ (m : Int)) && decide ((m : Int) ≤ s.2.2))))), (25, .v (iv k))]) (fun _ => [(0, .cells x.l 25), (1, .cells [.v (.slice (some z.1) n z.2), .v (iv ((1 + kp % 10) : Nat))] 107)]) (fun k => k ≤ (bsS x.d).length) (fun k => (bsS x.d).length - k) 0 (Nat.zero_le _) ⟨rfl, rfl, rfl, rfl, rfl, rfl, rfl, rfl, rfl, rfl, rfl, rfl, rfl, rfl, rfl, rfl, trivial⟩ ⟨rfl, rfl, trivial⟩ (fun _ => ⟨rfl, rfl⟩) ?_
     intro k hk
     rcases Nat.lt_or_ge k (bsS x.d).length with hkl | hkl
     · obtain ⟨⟨t, f, l⟩, hs⟩ : ∃ s, (bsS x.d)[k]? = some s := ⟨_, List.getElem?_eq_getElem hkl⟩
       have ef := fun (w' : World) (hw' : (Below w.heap.size w w' ∧ Rd 3 spF (sV (bsS x.d).length (some a, yc)) (bsS x.d) w') ∧ RdR (some z.1) z.2 (mkD nd tr P (bsS x.d) n) w' ∧ BuyR.In ⟨A, B, L, some ap, bc, to, n + 1, tc, cost, 0⟩ w') => rd_fld hw'.1.2 hs 1 (iv f) rfl
       have el := fun (w' : World) (hw' : (Below w.heap.size w w' ∧ Rd 3 spF (sV (bsS x.d).length (some a, yc)) (bsS x.d) w') ∧ RdR (some z.1) z.2 (mkD nd tr P (bsS x.d) n) w' ∧ BuyR.In ⟨A, B, L, some ap, bc, to, n + 1, tc, cost, 0⟩ w') => rd_fld hw'.1.2 hs 2 (iv l) rfl
       have hst : ((bsS x.d).take (k + 1)).any (fun s => decide (s.2.1 ≤ (m : Int)) && decide ((m : Int) ≤ s.2.2)) = (((bsS x.d).take k).any (fun s => decide (s.2.1 ≤ (m : Int)) && decide ((m : Int) ≤ s.2.2)) || (decide (f ≤ (m : Int)) && decide ((m : Int) ≤ l))) := by
        rw [List.take_add_one, hs, Option.toList_some, List.any_append, List.any_cons, List.any_nil, Bool.or_false]
       generalize ((bsS x.d).take k).any (fun s => decide (s.2.1 ≤ (m : Int)) && decide ((m : Int) ≤ s.2.2)) = on at *
       cases on
       all_goals
        repeat'
         conv => whnf
         first
          | refine zA ?_ | refine zB ?_ | refine zC ?_ | refine zD ?_ | refine zE ?_ | refine zF ?_ | refine zG ?_ | refine zH ?_ | refine zJ ?_ | refine zI ?_ | refine splT ?_ | refine splF ?_ | refine splNot ?_
          | ((first | refine splIn ?_ ?_ | refine splD ?_ ?_ | refine splE ?_ ?_ | refine splNE ?_ ?_) <;> intro hc <;> first | (exfalso; omega) | (exfalso; dsimp only at hc; omega) | skip)
          | refine Exists.intro (α := List Value) [iv m] ⟨⟨rfl, fun w' hw' => em w' hw'⟩, ?_⟩
          | refine Exists.intro (α := List Value) [iv f] ⟨⟨rfl, fun w' hw' => ef w' hw'⟩, ?_⟩
          | refine Exists.intro (α := List Value) [iv l] ⟨⟨rfl, fun w' hw' => el w' hw'⟩, ?_⟩
        all_goals first | (exfalso; omega) | exact ⟨k + 1, by omega, by omega, Ent.weak rfl ⟨rfl, rfl, rfl, rfl, rfl, rfl, rfl, rfl, rfl, rfl, rfl, rfl, rfl, rfl, by first | (rw [hst, Bool.true_or]; rfl) | (rw [hst, Bool.false_or, decide_eq_true (show f ≤ (m : Int) by omega), Bool.true_and]; rfl) | (rw [hst, Bool.false_or, decide_eq_false (show ¬ f ≤ (m : Int) by omega), Bool.false_and]; rfl), rfl, trivial⟩ ⟨rfl, rfl, trivial⟩ fun _ h => h⟩
     · rw [List.take_of_length_le hkl, hon1]
       repeat'
        conv => whnf
        first
         | refine zA ?_ | refine zB ?_ | refine zC ?_ | refine zD ?_ | refine zE ?_ | refine zF ?_ | refine zG ?_ | refine zH ?_ | refine zJ ?_ | refine zI ?_ | refine splT ?_ | refine splF ?_ | refine splNot ?_
         | ((first | refine splIn ?_ ?_ | refine splD ?_ ?_ | refine splE ?_ ?_ | refine splNE ?_ ?_) <;> intro hc <;> first | (exfalso; omega) | (exfalso; dsimp only at hc; omega) | skip)
       all_goals first | (exfalso; omega) | exact ⟨i + 1, by omega, by omega, Ent.weak rfl ⟨rfl, rfl, rfl, rfl, rfl, rfl, rfl, rfl, rfl, rfl, rfl, rfl, rfl, rfl, trivial⟩ ⟨rfl, rfl, trivial⟩ fun _ h => h⟩
   · rcases hce with ⟨rfl, _⟩ | ⟨rfl, _, hc2⟩
     all_goals
      repeat'
       conv => whnf
       first
        | refine zA ?_ | refine zB ?_ | refine zC ?_ | refine zD ?_ | refine zE ?_ | refine zF ?_ | refine zG ?_ | refine zH ?_ | refine zJ ?_ | refine zI ?_ | refine splT ?_ | refine splF ?_ | refine splNot ?_
        | ((first | refine splIn ?_ ?_ | refine splD ?_ ?_ | refine splE ?_ ?_ | refine splNE ?_ ?_) <;> intro hc <;> first | (exfalso; omega) | (exfalso; dsimp only at hc; omega) | skip)
        | ((with_reducible show CallEv _ _ 55 _ _ _ _ _); refine callE (k := 55) (fun β w' hbw => h55 w' hbw) ?_)
        | ((with_reducible show CallEv _ _ 52 _ _ _ _ _); refine callE (k := 52) (fun β w' hbw => eats_ok w') ?_)
      all_goals first | (exfalso; omega) | exact ⟨fun β => rfl, fun w' h => (by repeat (first | exact h | replace h := h.1))⟩
set_option maxHeartbeats 8000000 in
set_option maxRecDepth 100000 in
theorem TopFodder_ok (x : Tr) (kp : Nat) (nd tr : Int) (po : Option Addr) (pc : Nat) (P : List Int) (w : World) (h : TrI0 x w) (hPr : Rd 1 uF (.slice po P.length pc) P w) (hPb : ∀ p ∈ P, 0 ≤ p ∧ p ≤ 65535) (hPl : P.length ≤ 9223372036854775807) (hnd : 0 ≤ nd ∧ nd ≤ 255) (htr : 0 ≤ tr ∧ tr ≤ 65535) (hkp : kp ≤ 255) :
 Calls Try.prog 16 #[x.v, .int .u8 nd, .slice po P.length pc, .int .u16 tr, .int .u8 kp] w fun e w' => e = .returned (.bool true) ∧ Below w.heap.size w w' := by
 have h17 := fun w' hb => Small_ok x w' (h.below hb)
 have h22 := fun w' hb => Right_ok x w' (h.below hb)
 by_cases hg : (toB x.d = true ∧ smB x.d = true) ∧ x.days ≤ 30 ∧ 1 ≤ P.length ∧ P.length ≤ 9
 · obtain ⟨⟨hto, hsm⟩, h30, hP1, hP9⟩ := hg
   rw [hto] at h22
   rw [hsm] at h17
   have hB := toB_b hto
   have hI := h.b hB
   have hday : 1 ≤ x.days ∧ x.days ≤ 60 := (toB_n hto).d
   obtain ⟨n, hdn⟩ : ∃ n : Nat, x.days = n := ⟨x.days.toNat, by omega⟩
   have hn : 1 ≤ n ∧ n ≤ 30 := by omega
   have hP : PrcOk P := ⟨⟨hP1, hP9⟩, hPb⟩
   have h21 := fun w' hb => Tour_ok x w' (hI.below hb) hB
   have h20 : ∀ y w', TrIn y w' ∧ y.d = x.d → Calls Try.prog 20 #[y.v] w' fun e w2 => ∃ z : SlT (bsS x.d).length, e = .returned (.tuple #[sV (bsS x.d).length z.1, iv (hmO x.d (ALO x.d) 0 0 0), iv 0]) ∧ Below w'.heap.size w' w2 ∧ St w'.heap.size (Rd 3 spF (sV (bsS x.d).length z.1) (bsS x.d)) w2 := fun y w' hy => by
    have hb := BestC_ok y w' hy.1
    rw [hy.2] at hb
    unfold bsV at hb
    rw [if_pos hto] at hb
    exact hb
   have hcut : ∀ q : Option Addr × Nat, (((bsS x.d).length = 0 ∧ q = (none, 0)) ∨ (∃ a, q.1 = some a) ∧ (bsS x.d).length ≤ q.2) → VC Try.prog (rest 4 body16) ⟨180, [(1, .v (.int .u8 nd)), (2, .v (.slice po P.length pc)), (3, .v (.int .u16 tr)), (4, .v (.int .u8 kp)), (5, .ptr 0 0), (11, .v (sV (bsS x.d).length q))], [(0, .cells x.l 25)], 1, fun w2 => Below w.heap.size w w2 ∧ Rd 3 spF (sV (bsS x.d).length q) (bsS x.d) w2, z0⟩ (endΦ env Try.f16 fun s σ => (∀ β, s.c β = .bool true) ∧ ∀ w', σ.h w' → Below w.heap.size w w') := fun q hq => by
    refine Fo4 x n kp nd tr po pc P w hI hto hdn hn hPr hP hnd htr hkp q hq fun z b => ?_
    by_cases hS : (bsS x.d).length = 0
    · exact Fo6 x n kp nd tr po pc P w hI hto hdn hn hPr hP hnd htr hkp q hq z b hS
    · have h6 : VC Try.prog (rest 1 (rest 6 body16)) ⟨180, [(1, .v (.int .u8 nd)), (2, .v (.slice po P.length pc)), (3, .v (.int .u16 tr)), (4, .v (.int .u8 kp)), (5, .ptr 0 0), (11, .v (sV (bsS x.d).length q)), (14, .ptr 1 0), (15, .v (.slice b.1.po b.1.L.length b.1.pc)), (16, .v (iv b.1.cost)), (17, .v (.slice b.1.to b.1.tn b.1.tc)), (18, .v (iv b.1.er))], [(0, .cells x.l 25), (1, .cells [.v (.slice (some z.1) n z.2), .v (iv ((1 + kp % 10) : Nat))] 107)], 2, fun w2 => (Below w.heap.size w w2 ∧ Rd 3 spF (sV (bsS x.d).length q) (bsS x.d) w2) ∧ RdR (some z.1) z.2 (mkD nd tr P (bsS x.d) n) w2 ∧ b.1.In w2, z0⟩ (endΦ env Try.f16 fun s σ => (∀ β, s.c β = .bool true) ∧ ∀ w', σ.h w' → Below w.heap.size w w') := Fo7 x n kp nd tr po pc P w hI hto hdn hn hPr hP hnd htr hkp q hq z b hS fun c2 e2 hce => Fo8 x n kp nd tr po pc P w hI hto hdn hn hPr hP hnd htr hkp q hq z b hS c2 e2 hce
      show VC Try.prog (rest 6 body16) _ _
      refine VC.cutE env mixed 1 2 (fun _ : Unit => [(1, .v (.int .u8 nd)), (2, .v (.slice po P.length pc)), (3, .v (.int .u16 tr)), (4, .v (.int .u8 kp)), (5, .ptr 0 0), (11, .v (sV (bsS x.d).length q)), (14, .ptr 1 0), (15, .v (.slice b.1.po b.1.L.length b.1.pc)), (16, .v (iv b.1.cost)), (17, .v (.slice b.1.to b.1.tn b.1.tc)), (18, .v (iv b.1.er))]) (fun _ => [(0, .cells x.l 25), (1, .cells [.v (.slice (some z.1) n z.2), .v (iv ((1 + kp % 10) : Nat))] 107)]) (fun _ => True) (fun _ _ => ⟨rfl, rfl⟩) ?_ (fun _ _ => h6)
      clear h6 hq h h17 h22 h21 h20 hB
      generalize hsn : (bsS x.d).length = sn at *
      repeat'
       conv => whnf
       first
        | refine zA ?_ | refine zB ?_ | refine zC ?_ | refine zD ?_ | refine zE ?_ | refine zF ?_ | refine zG ?_ | refine zH ?_ | refine zJ ?_ | refine zI ?_ | refine splT ?_ | refine splF ?_ | refine splNot ?_
        | ((first | refine splIn ?_ ?_ | refine splD ?_ ?_ | refine splE ?_ ?_ | refine splNE ?_ ?_) <;> intro hc <;> first | (exfalso; omega) | (exfalso; dsimp only at hc; omega) | skip)
        | ((with_reducible show CallEv _ _ 52 _ _ _ _ _); refine callE (k := 52) (fun β w' hbw => eats_ok w') ?_)
      all_goals first | (exfalso; omega) | exact ⟨rfl, (), trivial, Ent.weak rfl ⟨rfl, rfl, rfl, rfl, rfl, rfl, rfl, rfl, rfl, rfl, rfl, trivial⟩ ⟨rfl, rfl, trivial⟩ fun w2 h => h⟩
   refine calls_valV env mixed Try.func16 has16 Try.ntmps16 [.agg #[iv x.days, iv x.shift, iv x.size, .slice x.to x.T.length x.tc, .slice x.lo x.L.length x.lc], .int .u8 nd, .slice po P.length pc, .int .u16 tr, .int .u8 kp] (by simp) ?_
   refine VC.cutH env mixed 4 1 (fun q : Option Addr × Nat => [(1, .v (.int .u8 nd)), (2, .v (.slice po P.length pc)), (3, .v (.int .u16 tr)), (4, .v (.int .u8 kp)), (5, .ptr 0 0), (11, .v (sV (bsS x.d).length q))]) (fun q => [(0, .cells x.l 25)]) (fun q w2 => Below w.heap.size w w2 ∧ Rd 3 spF (sV (bsS x.d).length q) (bsS x.d) w2) (fun q => ((bsS x.d).length = 0 ∧ q = (none, 0)) ∨ (∃ a, q.1 = some a) ∧ (bsS x.d).length ≤ q.2) (fun _ _ => ⟨rfl, rfl⟩) ?_ hcut
   clear hcut h hI hB hto hsm
   dsimp only [Tr.l]
   generalize hmO x.d (ALO x.d) 0 0 0 = hh at *
   repeat'
    conv => whnf
    first
     | refine zA ?_ | refine zB ?_ | refine zC ?_ | refine zD ?_ | refine zE ?_ | refine zF ?_ | refine zG ?_ | refine zH ?_ | refine zJ ?_ | refine zI ?_ | refine splT ?_ | refine splF ?_ | refine splNot ?_
     | ((first | refine splIn ?_ ?_ | refine splD ?_ ?_ | refine splE ?_ ?_ | refine splNE ?_ ?_) <;> intro hc <;> first | (exfalso; omega) | (exfalso; dsimp only at hc; omega) | skip)
     | ((with_reducible show CallEv _ _ 17 _ _ _ _ _); refine callE (k := 17) (fun β w' hbw => h17 w' (by repeat (first | exact hbw | replace hbw := hbw.1))) ?_)
     | ((with_reducible show CallEv _ _ 22 _ _ _ _ _); refine callE (k := 22) (fun β w' hbw => h22 w' (by repeat (first | exact hbw | replace hbw := hbw.1))) ?_)
     | ((with_reducible show CallEv _ _ 21 _ _ _ _ _); refine callF [] (fun y : Tr => y.v) (fun y w2 => TrIn y w2 ∧ y.d = x.d) (fun β w' _ hbw => h21 w' (by repeat (first | exact hbw | replace hbw := hbw.1))) ?_; intro y)
     | ((with_reducible show CallEv _ _ 20 _ _ _ _ _); refine callF [] (fun z : SlT (bsS x.d).length => .tuple #[sV (bsS x.d).length z.1, iv hh, iv 0]) (fun z w2 => Rd 3 spF (sV (bsS x.d).length z.1) (bsS x.d) w2) (fun β w' _ hbw => h20 y w' hbw.2) ?_; intro q)
   all_goals first | (exfalso; omega) | exact ⟨rfl, q.1, q.2, Ent.weak rfl ⟨rfl, rfl, rfl, rfl, rfl, rfl, trivial⟩ ⟨rfl, trivial⟩ fun w2 h => ⟨h.1.1, h.2⟩⟩
 · obtain ⟨tb, htb⟩ : ∃ b, toB x.d = b := ⟨_, rfl⟩
   obtain ⟨sb, hsb⟩ : ∃ b, smB x.d = b := ⟨_, rfl⟩
   rw [htb] at h22 hg
   rw [hsb] at h17 hg
   refine calls_val env mixed Try.func16 has16 Try.ntmps16 [.agg #[iv x.days, iv x.shift, iv x.size, .slice x.to x.T.length x.tc, .slice x.lo x.L.length x.lc], .int .u8 nd, .slice po P.length pc, .int .u16 tr, .int .u8 kp] (by simp) ?_
   clear h htb hsb hPr hPb
   cases tb <;> cases sb
   all_goals
    simp only [Bool.false_eq_true, false_and, and_false, true_and, not_false_iff, not_true_eq_false] at hg
    repeat'
     conv => whnf
     first
      | refine zA ?_ | refine zB ?_ | refine zC ?_ | refine zD ?_ | refine zE ?_ | refine zF ?_ | refine zG ?_ | refine zH ?_ | refine zJ ?_ | refine zI ?_ | refine splT ?_ | refine splF ?_ | refine splNot ?_
      | ((first | refine splIn ?_ ?_ | refine splD ?_ ?_ | refine splE ?_ ?_ | refine splNE ?_ ?_) <;> intro hc <;> first | (exfalso; omega) | (exfalso; dsimp only at hc; omega) | skip)
      | ((with_reducible show CallEv _ _ 17 _ _ _ _ _); refine callE (k := 17) (fun β w' hbw => h17 w' (by repeat (first | exact hbw | replace hbw := hbw.1))) ?_)
      | ((with_reducible show CallEv _ _ 22 _ _ _ _ _); refine callE (k := 22) (fun β w' hbw => h22 w' (by repeat (first | exact hbw | replace hbw := hbw.1))) ?_)
      | ((with_reducible show CallEv _ _ 52 _ _ _ _ _); refine callE (k := 52) (fun β w' hbw => eats_ok w') ?_)
    all_goals first | (exfalso; omega) | exact ⟨fun β => rfl, fun w' h => (by repeat (first | exact h | replace h := h.1))⟩
end Go.Proofs.Ythfabodamhdhaaa
namespace Go.Proofs.Ythfabodamhdhaaa
open Go Tx Go.RowKit
set_option linter.unusedSimpArgs false
set_option linter.unusedVariables false
abbrev I64 (n : Int) : Prop := -9223372036854775808 ≤ n ∧ n ≤ 9223372036854775807
def shI : Shp := .int .i64
def shRg : Shp := .agg [shI, shI]
def shTw : Shp := .agg [.sl 2 shRg, shRg, shI, shI, shI, .sl 2 shRg, shI, shI]
def shTo : Shp := .agg [shI, shI, shI, .sl 9 shTw, .sl 1 (.sl 2 shRg)]
theorem op_slc {α : Type} {w : World} {sz : Nat} {e : Shp} {f : α → List Value} {Q : α → Prop} (he : ∀ es, e.rd w es → ∃ x, es = f x ∧ Q x) {cs : List Value} (h : (Shp.sl sz e).rd w cs) :
 ∃ (o : Option Addr) (c : Nat) (xs : List α), cs = [.slice o xs.length c] ∧ Rd sz f (.slice o xs.length c) xs w ∧ xs.length ≤ 9223372036854775807 ∧ xs.length ≤ c ∧ ∀ x ∈ xs, Q x := by
 unfold Shp.rd at h
 rcases h with rfl | ⟨a, n, c, rfl, h1, h2, h3⟩
 · exact ⟨none, 0, [], rfl, .inl ⟨rfl, rfl⟩, by simp, by simp, fun x hx => by simp at hx⟩
 · obtain ⟨xs, hl, hb⟩ := list_of (Q := fun i (x : α) => (∀ j v, (f x)[j]? = some v → w.cell? ((a.add (i * sz)).add j) = some v) ∧ Q x) n fun i hi => by
    obtain ⟨es, _, e2, e3⟩ := h3 i hi
    obtain ⟨x, rfl, hx⟩ := he es e3
    exact ⟨x, e2, hx⟩
   subst hl
   exact ⟨some a, c, xs, rfl, .inr ⟨a, c, rfl, fun k b hk => (hb k b hk).1⟩, by unfold maxLen at h2; omega, h1, fun x hx => by
    obtain ⟨k, hk⟩ := List.mem_iff_getElem?.1 hx
    exact (hb k x hk).2⟩
theorem op_i {w : World} {es : List Value} (h : shI.rd w es) : ∃ n : Int, es = [iv n] ∧ I64 n := by
 simp only [shI, Shp.rd] at h
 obtain ⟨n, rfl, g⟩ := h
 exact ⟨n, rfl, wf64 g⟩
theorem op_rg {w : World} {es : List Value} (h : shRg.rd w es) : ∃ r : Int × Int, es = prF r ∧ I64 r.1 ∧ I64 r.2 := by
 simp only [shRg, Shp.rd.eq_3, Shp.rds] at h
 obtain ⟨_, _, rfl, h1, _, _, rfl, h2, rfl⟩ := h
 obtain ⟨a, rfl, ha⟩ := op_i h1
 obtain ⟨b, rfl, hb⟩ := op_i h2
 exact ⟨(a, b), rfl, ha, hb⟩
theorem op_rgs {w : World} {cs : List Value} (h : (Shp.sl 2 shRg).rd w cs) : ∃ (o : Option Addr) (c : Nat) (xs : List (Int × Int)), cs = [.slice o xs.length c] ∧ Rd 2 prF (.slice o xs.length c) xs w ∧ xs.length ≤ 9223372036854775807 := by
 obtain ⟨o, c, xs, h1, h2, h3, _, _⟩ := op_slc (f := prF) (Q := fun r => I64 r.1 ∧ I64 r.2) (fun es h => op_rg h) h
 exact ⟨o, c, xs, h1, h2, h3⟩
theorem op_tw {w : World} {es : List Value} (h : shTw.rd w es) : ∃ t : Tn, es = Tn.cs t ∧ TnI0 t w := by
 simp only [shTw, Shp.rd.eq_3, Shp.rds] at h
 obtain ⟨_, _, rfl, h1, _, _, rfl, h2, _, _, rfl, h3, _, _, rfl, h4, _, _, rfl, h5, _, _, rfl, h6, _, _, rfl, h7, _, _, rfl, h8, rfl⟩ := h
 obtain ⟨oo, oc, O, rfl, a1, a2⟩ := op_rgs h1
 obtain ⟨⟨s1, s2⟩, rfl, _⟩ := op_rg h2
 obtain ⟨pay, rfl, _⟩ := op_i h3
 obtain ⟨lot, rfl, _⟩ := op_i h4
 obtain ⟨rent, rfl, _⟩ := op_i h5
 obtain ⟨ro, rc, R, rfl, b1, b2⟩ := op_rgs h6
 obtain ⟨cold, rfl, _⟩ := op_i h7
 obtain ⟨cut, rfl, _⟩ := op_i h8
 exact ⟨⟨oo, oc, ro, rc, ⟨O, s1, s2, pay, lot, rent, R, cold, cut⟩⟩, rfl, a1, b1, a2, b2⟩
theorem op_lr {w : World} {es : List Value} (h : (Shp.sl 2 shRg).rd w es) : ∃ r : Lr, es = Lr.cs r ∧ Rd 2 prF (.slice r.o r.L.length r.c) r.L w ∧ r.L.length ≤ 9223372036854775807 := by
 obtain ⟨o, c, xs, h1, h2, h3⟩ := op_rgs h
 exact ⟨⟨o, c, xs⟩, h1, h2, h3⟩
theorem op_tour {w : World} {cs : List Value} (h : shTo.rd w cs) : ∃ x : Tr, cs = x.cs ∧ TrI0 x w := by
 simp only [shTo, Shp.rd.eq_3, Shp.rds] at h
 obtain ⟨_, _, rfl, h1, _, _, rfl, h2, _, _, rfl, h3, _, _, rfl, h4, _, _, rfl, h5, rfl⟩ := h
 obtain ⟨days, rfl, _⟩ := op_i h1
 obtain ⟨shift, rfl, _⟩ := op_i h2
 obtain ⟨size, rfl, _⟩ := op_i h3
 obtain ⟨to, tc, T, rfl, a1, a2, a3, a4⟩ := op_slc (f := Tn.cs) (Q := fun t => TnI0 t w) (fun es h => op_tw h) h4
 obtain ⟨lo, lc, L, rfl, b1, b2, _, b4⟩ := op_slc (f := Lr.cs) (Q := fun r => Rd 2 prF (.slice r.o r.L.length r.c) r.L w ∧ r.L.length ≤ 9223372036854775807) (fun es h => op_lr h) h5
 exact ⟨⟨days, shift, size, to, tc, T, lo, lc, L⟩, rfl, a1, a4, b1, fun r hr => (b4 r hr).1, a2, b2, fun r hr => (b4 r hr).2, a3⟩
end Go.Proofs.Ythfabodamhdhaaa
namespace Go.Proofs.Ythfabodamhdhaaa
open Go Tx Go.RowKit
set_option linter.unusedSimpArgs false
set_option linter.unusedVariables false
def shU : Shp := .int .u16
theorem op_u {w : World} {es : List Value} (h : shU.rd w es) : ∃ n : Int, es = uF n ∧ (0 ≤ n ∧ n ≤ 65535) := by
 simp only [shU, Shp.rd] at h
 obtain ⟨n, rfl, g⟩ := h
 exact ⟨n, rfl, wf16 g⟩
theorem op_us {w : World} {v : Value} (h : (Shp.sl 1 shU).rd w [v]) : ∃ (o : Option Addr) (c : Nat) (xs : List Int), v = .slice o xs.length c ∧ Rd 1 uF (.slice o xs.length c) xs w ∧ xs.length ≤ 9223372036854775807 ∧ ∀ x ∈ xs, 0 ≤ x ∧ x ≤ 65535 := by
 obtain ⟨o, c, xs, h1, h2, h3, _, h4⟩ := op_slc (f := uF) (Q := fun x : Int => 0 ≤ x ∧ x ≤ 65535) (fun es h => op_u h) h
 simp only [List.cons.injEq, and_true] at h1
 exact ⟨o, c, xs, h1, h2, h3, h4⟩
end Go.Proofs.Ythfabodamhdhaaa
