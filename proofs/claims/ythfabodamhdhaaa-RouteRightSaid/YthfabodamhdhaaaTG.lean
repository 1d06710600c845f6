/- A tour said in the program's types, in new memory: what Tour returns. -/
import Derived.Test.YthfabodamhdhaaaTF
namespace Go.Proofs.Ythfabodamhdhaaa
open Go Tx Go.RowKit
set_option linter.unusedSimpArgs false
set_option linter.unusedVariables false
theorem rows_st {α : Type} {sz : Nat} {f : α → List Value} (hf : ∀ x, (f x).length = sz) {bs : List α} {w : World} {m b n ty c : Nat} {xs : List Value} (hn : n = bs.length) (hx : xs = bs.flatMap f) (hb : m ≤ b) (h : w.ownsRow 0 ty sz (.slice (some ⟨b, 0, none⟩) n c) n xs) :
 St m (Rd sz f (.slice (some ⟨b, 0, none⟩) n c) bs) w := fun w2 k => by
 obtain ⟨cur, hc⟩ := own_heap h
 exact Rd.of_owns (sz := sz) (f := f) hf hx hn (own_keep h (k.same b hb (Array.getElem?_eq_some_iff.1 hc).1))
theorem own_cap {w : World} {b n c sz ty : Nat} {xs : List Value} (h : w.ownsRow 0 ty sz (.slice (some ⟨b, 0, none⟩) n c) n xs) : n ≤ c := by
 rcases h.2 with ⟨h', _⟩ | ⟨g, cap, cur, q0, q1, q2, q3, _⟩
 · cases h'
 · simp only [Value.slice.injEq] at q0
   obtain ⟨_, _, rfl⟩ := q0
   exact q3
set_option maxHeartbeats 8000000 in
set_option maxRecDepth 100000 in
theorem Tour_ok (x : Tr) (w : World) (h : TrIn x w) (hB : TrB x) : Calls Try.prog 21 #[x.v] w fun e w' => ∃ y : Tr, e = .returned y.v ∧ Below w.heap.size w w' ∧ St w.heap.size (fun w2 => TrIn y w2 ∧ y.d = x.d) w' := by
 obtain ⟨days, shift, size, to, tc, T, lo, lc, L⟩ := x
 obtain ⟨hT, hTi, hL, hLi, -, -, -, htc⟩ := h
 obtain ⟨hBt, hBl, htl, hll⟩ := hB
 dsimp only at hT hTi hL hLi htc hBt hBl htl hll ⊢
 refine calls_famV env mixed Try.func21 has21 Try.ntmps21 [.agg #[iv days, iv shift, iv size, .slice to T.length tc, .slice lo L.length lc]] (by simp) ?_
 refine VC.cutD env mixed 3 3 (fun _ : (Option Addr × Nat) × List Tn => [(1, .ptr 0 0), (2, .ptr 1 0), (3, .ptr 2 0)]) (fun y => [(0, .cells [.v (iv days), .v (iv shift), .v (iv size), .v (.slice to T.length tc), .v (.slice lo L.length lc)] 25), (1, .cells [.v (iv 0), .v (iv 0), .v (iv 0), .v (.slice none 0 0), .v (.slice none 0 0)] 35), (2, .cells [.v (iv days), .v (iv shift), .v (iv size), .v (.slice y.1.1 T.length y.1.2), .v (.slice none 0 0)] 35)]) (fun y w2 => Below w.heap.size w w2 ∧ (St w.heap.size (Rd 9 Tn.cs (.slice y.1.1 T.length y.1.2) y.2) w2 ∧ ∀ t ∈ y.2, St w.heap.size (TnIn t) w2)) (fun y => y.2.map Tn.d = T.map Tn.d ∧ T.length ≤ y.1.2) (fun _ _ => ⟨rfl, rfl⟩) ?_ ?_
 · skip
   repeat'
    conv => whnf
    first
     | refine zA ?_ | refine zB ?_ | refine zC ?_ | refine zD ?_ | refine zE ?_ | refine zF ?_ | refine zG ?_ | refine zH ?_ | refine zJ ?_ | refine zI ?_ | refine splT ?_ | refine splF ?_ | refine splNot ?_
     | ((first | refine splIn ?_ ?_ | refine splD ?_ ?_ | refine splE ?_ ?_ | refine splNE ?_ ?_) <;> intro hc <;> first | (exfalso; omega) | (exfalso; dsimp only at hc; omega) | skip)
   all_goals first | (exfalso; omega) | skip
   refine loopD 5 (fun D : List Tn => [(1, .ptr 0 0), (2, .ptr 1 0), (3, .ptr 2 0), (4, .v (iv D.length))]) (fun D => (0, .cells [.v (iv days), .v (iv shift), .v (iv size), .v (.slice to T.length tc), .v (.slice lo L.length lc)] 25) :: (1, .cells [.v (iv 0), .v (iv 0), .v (iv 0), .v (.slice none 0 0), .v (.slice none 0 0)] 35) :: (2, .cells [.v (iv days), .v (iv shift), .v (iv size), oSV 3 4 D, .v (.slice none 0 0)] 35) :: oM 3 4 9 Tn.cs 57 D) (fun (D : List Tn) w' => Below w.heap.size w w' ∧ ∀ t ∈ D, St w.heap.size (TnIn t) w') (fun D => D.length ≤ T.length ∧ D.map Tn.d = (T.map Tn.d).take D.length) (fun D => T.length - D.length)
    (Dis.ent (x := []) ⟨Nat.zero_le _, rfl⟩ (Ent.weak rfl ⟨rfl, rfl, rfl, rfl, trivial⟩ ⟨rfl, rfl, rfl, trivial⟩ (fun w' h => ⟨h, fun p hp => by cases hp⟩))) (fun D _ => by cases D <;> exact ⟨rfl, rfl⟩) ?_
   intro D ⟨hk, hmap⟩
   rcases Nat.lt_or_ge D.length T.length with hkl | hkl
   · obtain ⟨⟨oo, oc, ro, rc, O, s1, s2, pay, lot, rent, R, cold, cut⟩, hx⟩ : ∃ b, T[D.length]? = some b := ⟨_, List.getElem?_eq_getElem hkl⟩
     obtain ⟨_, ad, rfl, _⟩ := hT.ptr (by omega)
     have e0 := fun (w' : World) hw' => rd_ati (hT.below (w' := w') hw') hx
     have hti := hTi _ (List.mem_of_getElem? hx)
     have hbt := hBt _ (List.mem_of_getElem? hx)
     obtain ⟨htO, htR, -, -⟩ := hti
     dsimp only at htO htR hbt
     have hO60 := fun w' (hb : Below w.heap.size w w') => ranges_ok O oo oc w' (htO.below hb) (by omega)
     have hR60 := fun w' (hb : Below w.heap.size w w') => ranges_ok R ro rc w' (htR.below hb) (by omega)
     have hm : (T.map Tn.d)[D.length]? = some ⟨O, s1, s2, pay, lot, rent, R, cold, cut⟩ := by rw [List.getElem?_map, hx]; rfl
     have hnew : ∀ t : Tn, t.d = ⟨O, s1, s2, pay, lot, rent, R, cold, cut⟩ → (D ++ [t]).map Tn.d = (T.map Tn.d).take (D ++ [t]).length := fun t ht => by
      rw [List.map_append, hmap, List.length_append, List.length_singleton, List.take_add_one, hm]
      show _ ++ [t.d] = _
      rw [ht]; rfl
     have hl2 : ∀ t : Tn, (D ++ [t]).length = D.length + 1 := fun t => by simp
     have hh : ∀ (t : Tn) w', (fun (D : List Tn) w' => Below w.heap.size w w' ∧ ∀ t ∈ D, St w.heap.size (TnIn t) w') D w' → t.d = ⟨O, s1, s2, pay, lot, rent, R, cold, cut⟩ → St w.heap.size (TnIn t) w' → (fun (D : List Tn) w' => Below w.heap.size w w' ∧ ∀ t ∈ D, St w.heap.size (TnIn t) w') (D ++ [t]) w' := fun t w' hw' _ ht => ⟨hw'.1, fun r hr => by
      rcases List.mem_append.1 hr with hr | hr
      · exact hw'.2 r hr
      · rw [List.mem_singleton] at hr; subst hr; exact ht⟩
     generalize hn : D.length = n at *
     by_cases hOn : O = []
     · subst hOn
       have hO1 := fun w' hb => (hO60 w' hb).mono fun e w2 h => h.1 rfl
       by_cases hRn : R = []
       · subst hRn
         have hR1 := fun w' hb => (hR60 w' hb).mono fun e w2 h => h.1 rfl
         clear hO60 hR60
         cases D with
         | nil =>
          repeat'
           conv => whnf
           first
            | refine zA ?_ | refine zB ?_ | refine zC ?_ | refine zD ?_ | refine zE ?_ | refine zF ?_ | refine zG ?_ | refine zH ?_ | refine zJ ?_ | refine zI ?_ | refine splT ?_ | refine splF ?_ | refine splNot ?_
            | ((first | refine splIn ?_ ?_ | refine splD ?_ ?_ | refine splE ?_ ?_ | refine splNE ?_ ?_) <;> intro hc <;> first | (exfalso; omega) | (exfalso; dsimp only at hc; omega) | skip)
            | refine Exists.intro (α := List Value) [.slice oo ([] : List (Int × Int)).length oc, iv s1, iv s2, iv pay, iv lot, iv rent, .slice ro ([] : List (Int × Int)).length rc, iv cold, iv cut] ⟨⟨rfl, fun w' hw' => e0 w' hw'.1⟩, ?_⟩
            | ((with_reducible show CallEv _ _ 60 [.v (.slice oo ([] : List (Int × Int)).length oc)] _ _ _ _); refine callE (k := 60) (fun β w' hbw => hO1 w' hbw.1) ?_)
            | ((with_reducible show CallEv _ _ 60 [.v (.slice ro ([] : List (Int × Int)).length rc)] _ _ _ _); refine callE (k := 60) (fun β w' hbw => hR1 w' hbw.1) ?_)
          all_goals first | (exfalso; omega) | skip
          exact Dis.mk5 (w0 := w) (rho [(3, 7), (4, 8)]) [] (by exact trivial) (fun i hi => by cases hi) (fun w' h => h.1) (fun β w1 hok hw1 hge hne hij => ⟨[] ++ [(⟨none, 0, none, 0, ⟨[], s1, s2, pay, lot, rent, [], cold, cut⟩⟩ : Tn)], ⟨⟨by (show 1 ≤ T.length); omega, hnew (⟨none, 0, none, 0, ⟨[], s1, s2, pay, lot, rent, [], cold, cut⟩⟩ : Tn) rfl⟩, by (have hn0 : n = 0 := hn.symm); (show T.length - 1 < T.length - n); omega⟩, ⟨⟨_, rfl, rfl⟩, ⟨_, rfl, rfl⟩, ⟨_, rfl, rfl⟩, ⟨_, rfl, by rw [← hn]; rfl⟩, trivial⟩,
           ⟨⟨rfl, _, rfl, fun _ => rfl, fun w2 y hy => hy⟩, ⟨rfl, _, rfl, fun _ => rfl, fun w2 y hy => hy⟩, ⟨rfl, _, rfl, fun _ => rfl, fun w2 y hy => hy⟩, ⟨rfl, _, rfl, fun _ => rfl, fun w2 y hy => hy⟩, trivial⟩, rfl, fun w2 hw2 hLo => hh (⟨none, 0, none, 0, ⟨[], s1, s2, pay, lot, rent, [], cold, cut⟩⟩ : Tn) w2 hw2 rfl (fun w3 k3 => ⟨.inl ⟨rfl, rfl⟩, .inl ⟨rfl, rfl⟩, by (show ([] : List (Int × Int)).length ≤ 1000000); omega, by (show ([] : List (Int × Int)).length ≤ 1000000); omega⟩)⟩)
         | cons a D =>
          simp only [List.length_cons] at hn
          have hl3 : ∀ t : Tn, (a :: D ++ [t]).length = D.length + 1 + 1 := fun t => by rw [hl2]; omega
          have hoS : ∀ t : Tn, oSV 3 4 (a :: D ++ [t]) = .os 3 4 (D.length + 1 + 1) := fun t => by simp [oSV]
          repeat'
           conv => whnf
           first
            | refine zA ?_ | refine zB ?_ | refine zC ?_ | refine zD ?_ | refine zE ?_ | refine zF ?_ | refine zG ?_ | refine zH ?_ | refine zJ ?_ | refine zI ?_ | refine splT ?_ | refine splF ?_ | refine splNot ?_
            | ((first | refine splIn ?_ ?_ | refine splD ?_ ?_ | refine splE ?_ ?_ | refine splNE ?_ ?_) <;> intro hc <;> first | (exfalso; omega) | (exfalso; dsimp only at hc; omega) | skip)
            | refine Exists.intro (α := List Value) [.slice oo ([] : List (Int × Int)).length oc, iv s1, iv s2, iv pay, iv lot, iv rent, .slice ro ([] : List (Int × Int)).length rc, iv cold, iv cut] ⟨⟨rfl, fun w' hw' => e0 w' hw'.1⟩, ?_⟩
            | ((with_reducible show CallEv _ _ 60 [.v (.slice oo ([] : List (Int × Int)).length oc)] _ _ _ _); refine callE (k := 60) (fun β w' hbw => hO1 w' hbw.1) ?_)
            | ((with_reducible show CallEv _ _ 60 [.v (.slice ro ([] : List (Int × Int)).length rc)] _ _ _ _); refine callE (k := 60) (fun β w' hbw => hR1 w' hbw.1) ?_)
          all_goals first | (exfalso; omega) | skip
          exact Dis.mk5 (w0 := w) (rho [(3, 7), (4, 8)]) [] (by exact trivial) (fun i hi => by cases hi) (fun w' h => h.1) (fun β w1 hok hw1 hge hne hij => ⟨a :: D ++ [(⟨none, 0, none, 0, ⟨[], s1, s2, pay, lot, rent, [], cold, cut⟩⟩ : Tn)], ⟨⟨by have := hl3 (⟨none, 0, none, 0, ⟨[], s1, s2, pay, lot, rent, [], cold, cut⟩⟩ : Tn); omega, hnew (⟨none, 0, none, 0, ⟨[], s1, s2, pay, lot, rent, [], cold, cut⟩⟩ : Tn) rfl⟩, by have := hl3 (⟨none, 0, none, 0, ⟨[], s1, s2, pay, lot, rent, [], cold, cut⟩⟩ : Tn); omega⟩, ⟨⟨_, rfl, rfl⟩, ⟨_, rfl, rfl⟩, ⟨_, rfl, rfl⟩, ⟨_, rfl, by rw [hl3 (⟨none, 0, none, 0, ⟨[], s1, s2, pay, lot, rent, [], cold, cut⟩⟩ : Tn), ← hn]; rfl⟩, trivial⟩,
           ⟨⟨rfl, _, rfl, fun _ => rfl, fun w2 y hy => hy⟩, ⟨rfl, _, rfl, fun _ => rfl, fun w2 y hy => hy⟩, ⟨rfl, _, rfl, fun _ => rfl, fun w2 y hy => by rw [hoS (⟨none, 0, none, 0, ⟨[], s1, s2, pay, lot, rent, [], cold, cut⟩⟩ : Tn)]; exact hy⟩, by simp [oM]; exact ⟨⟨rfl, _, rfl, fun _ => rfl, fun w2 y hy => by simp [Blk.ok] at hy ⊢; exact hy⟩, trivial⟩⟩, rfl, fun w2 hw2 hLo => hh (⟨none, 0, none, 0, ⟨[], s1, s2, pay, lot, rent, [], cold, cut⟩⟩ : Tn) w2 hw2 rfl (fun w3 k3 => ⟨.inl ⟨rfl, rfl⟩, .inl ⟨rfl, rfl⟩, by (show ([] : List (Int × Int)).length ≤ 1000000); omega, by (show ([] : List (Int × Int)).length ≤ 1000000); omega⟩)⟩)
       · have hR2 := fun w' hb => (hR60 w' hb).mono fun e w2 h => h.2 hRn
         clear hO60 hR60
         cases D with
         | nil =>
          repeat'
           conv => whnf
           first
            | refine zA ?_ | refine zB ?_ | refine zC ?_ | refine zD ?_ | refine zE ?_ | refine zF ?_ | refine zG ?_ | refine zH ?_ | refine zJ ?_ | refine zI ?_ | refine splT ?_ | refine splF ?_ | refine splNot ?_
            | ((first | refine splIn ?_ ?_ | refine splD ?_ ?_ | refine splE ?_ ?_ | refine splNE ?_ ?_) <;> intro hc <;> first | (exfalso; omega) | (exfalso; dsimp only at hc; omega) | skip)
            | refine Exists.intro (α := List Value) [.slice oo ([] : List (Int × Int)).length oc, iv s1, iv s2, iv pay, iv lot, iv rent, .slice ro R.length rc, iv cold, iv cut] ⟨⟨rfl, fun w' hw' => e0 w' hw'.1⟩, ?_⟩
            | ((with_reducible show CallEv _ _ 60 [.v (.slice oo ([] : List (Int × Int)).length oc)] _ _ _ _); refine callE (k := 60) (fun β w' hbw => hO1 w' hbw.1) ?_)
            | ((with_reducible show CallEv _ _ 60 [.v (.slice ro R.length rc)] _ _ _ _); refine callO 6 [] (.os 6 7 R.length) R.length 2 (R.flatMap prF) 55 rfl (fun β w' _ hbw => (hR2 w' hbw.1).mono fun _ _ ⟨b, c, h1, h2, h3, h4⟩ => ⟨b, c, h1, h2, h3, h4⟩) ?_)
            | refine appG env 8 1 1 [.v (.slice none 0 0), .v (iv s1), .v (iv s2), .v (iv pay), .v (iv lot), .v (iv rent), .os 6 7 R.length, .v (iv cold), .v (iv cut)] 57 0 [] [] rfl rfl rfl rfl rfl (by decide) rfl rfl rfl (fun _ => Nat.le_refl _) (by omega) (by decide) rfl (.inl ⟨rfl, rfl, rfl, rfl⟩) rfl ?_
          all_goals first | (exfalso; omega) | skip
          exact Dis.mk5 (w0 := w) (rho [(3, 9), (4, 10)]) [6] (by exact trivial) (fun i hi => by rw [List.mem_singleton] at hi; subst hi; exact ⟨_, rfl, rfl⟩) (fun w' h => h.1) (fun β w1 hok hw1 hge hne hij => ⟨[] ++ [(⟨none, 0, some ⟨β 6, 0, none⟩, β 7, ⟨[], s1, s2, pay, lot, rent, R, cold, cut⟩⟩ : Tn)], ⟨⟨by (show 1 ≤ T.length); omega, hnew (⟨none, 0, some ⟨β 6, 0, none⟩, β 7, ⟨[], s1, s2, pay, lot, rent, R, cold, cut⟩⟩ : Tn) rfl⟩, by (have hn0 : n = 0 := hn.symm); (show T.length - 1 < T.length - n); omega⟩, ⟨⟨_, rfl, rfl⟩, ⟨_, rfl, rfl⟩, ⟨_, rfl, rfl⟩, ⟨_, rfl, by rw [← hn]; rfl⟩, trivial⟩,
           ⟨⟨rfl, _, rfl, fun _ => rfl, fun w2 y hy => hy⟩, ⟨rfl, _, rfl, fun _ => rfl, fun w2 y hy => hy⟩, ⟨rfl, _, rfl, fun _ => rfl, fun w2 y hy => hy⟩, ⟨rfl, _, rfl, fun _ => rfl, fun w2 y hy => hy⟩, trivial⟩, rfl, fun w2 hw2 hLo => hh (⟨none, 0, some ⟨β 6, 0, none⟩, β 7, ⟨[], s1, s2, pay, lot, rent, R, cold, cut⟩⟩ : Tn) w2 hw2 rfl (fun w3 k3 => ⟨.inl ⟨rfl, rfl⟩, rows_st (f := prF) (fun _ => rfl) rfl rfl (hge 6 _ rfl rfl) (hLo 6 (by simp) _ rfl) w3 k3, by (show ([] : List (Int × Int)).length ≤ 1000000); omega, by (show R.length ≤ 1000000); omega⟩)⟩)
         | cons a D =>
          simp only [List.length_cons] at hn
          have hl3 : ∀ t : Tn, (a :: D ++ [t]).length = D.length + 1 + 1 := fun t => by rw [hl2]; omega
          have hoS : ∀ t : Tn, oSV 3 4 (a :: D ++ [t]) = .os 3 4 (D.length + 1 + 1) := fun t => by simp [oSV]
          repeat'
           conv => whnf
           first
            | refine zA ?_ | refine zB ?_ | refine zC ?_ | refine zD ?_ | refine zE ?_ | refine zF ?_ | refine zG ?_ | refine zH ?_ | refine zJ ?_ | refine zI ?_ | refine splT ?_ | refine splF ?_ | refine splNot ?_
            | ((first | refine splIn ?_ ?_ | refine splD ?_ ?_ | refine splE ?_ ?_ | refine splNE ?_ ?_) <;> intro hc <;> first | (exfalso; omega) | (exfalso; dsimp only at hc; omega) | skip)
            | refine Exists.intro (α := List Value) [.slice oo ([] : List (Int × Int)).length oc, iv s1, iv s2, iv pay, iv lot, iv rent, .slice ro R.length rc, iv cold, iv cut] ⟨⟨rfl, fun w' hw' => e0 w' hw'.1⟩, ?_⟩
            | ((with_reducible show CallEv _ _ 60 [.v (.slice oo ([] : List (Int × Int)).length oc)] _ _ _ _); refine callE (k := 60) (fun β w' hbw => hO1 w' hbw.1) ?_)
            | ((with_reducible show CallEv _ _ 60 [.v (.slice ro R.length rc)] _ _ _ _); refine callO 6 [] (.os 6 7 R.length) R.length 2 (R.flatMap prF) 55 rfl (fun β w' _ hbw => (hR2 w' hbw.1).mono fun _ _ ⟨b, c, h1, h2, h3, h4⟩ => ⟨b, c, h1, h2, h3, h4⟩) ?_)
            | refine appG env 8 1 1 [.v (.slice none 0 0), .v (iv s1), .v (iv s2), .v (iv pay), .v (iv lot), .v (iv rent), .os 6 7 R.length, .v (iv cold), .v (iv cut)] 57 (D.length + 1) ((a :: D).flatMap Tn.cs) [3] rfl rfl rfl rfl rfl (by decide) rfl rfl rfl (fun h => by cases h) (by omega) (by show (D.length + 1 + 1) * 104 ≤ 140737488355328; omega) rfl (.inr ⟨3, 4, rfl, rfl, rfl, (by show 3 < 9; decide)⟩) rfl ?_
          all_goals first | (exfalso; omega) | skip
          exact Dis.mk5 (w0 := w) (rho [(3, 9), (4, 10)]) [6] (by exact trivial) (fun i hi => by rw [List.mem_singleton] at hi; subst hi; exact ⟨_, rfl, rfl⟩) (fun w' h => h.1) (fun β w1 hok hw1 hge hne hij => ⟨a :: D ++ [(⟨none, 0, some ⟨β 6, 0, none⟩, β 7, ⟨[], s1, s2, pay, lot, rent, R, cold, cut⟩⟩ : Tn)], ⟨⟨by have := hl3 (⟨none, 0, some ⟨β 6, 0, none⟩, β 7, ⟨[], s1, s2, pay, lot, rent, R, cold, cut⟩⟩ : Tn); omega, hnew (⟨none, 0, some ⟨β 6, 0, none⟩, β 7, ⟨[], s1, s2, pay, lot, rent, R, cold, cut⟩⟩ : Tn) rfl⟩, by have := hl3 (⟨none, 0, some ⟨β 6, 0, none⟩, β 7, ⟨[], s1, s2, pay, lot, rent, R, cold, cut⟩⟩ : Tn); omega⟩, ⟨⟨_, rfl, rfl⟩, ⟨_, rfl, rfl⟩, ⟨_, rfl, rfl⟩, ⟨_, rfl, by rw [hl3 (⟨none, 0, some ⟨β 6, 0, none⟩, β 7, ⟨[], s1, s2, pay, lot, rent, R, cold, cut⟩⟩ : Tn), ← hn]; rfl⟩, trivial⟩,
           ⟨⟨rfl, _, rfl, fun _ => rfl, fun w2 y hy => hy⟩, ⟨rfl, _, rfl, fun _ => rfl, fun w2 y hy => hy⟩, ⟨rfl, _, rfl, fun _ => rfl, fun w2 y hy => by rw [hoS (⟨none, 0, some ⟨β 6, 0, none⟩, β 7, ⟨[], s1, s2, pay, lot, rent, R, cold, cut⟩⟩ : Tn)]; exact hy⟩, by simp [oM]; exact ⟨⟨rfl, _, rfl, fun _ => rfl, fun w2 y hy => by simp [Blk.ok] at hy ⊢; exact hy⟩, trivial⟩⟩, rfl, fun w2 hw2 hLo => hh (⟨none, 0, some ⟨β 6, 0, none⟩, β 7, ⟨[], s1, s2, pay, lot, rent, R, cold, cut⟩⟩ : Tn) w2 hw2 rfl (fun w3 k3 => ⟨.inl ⟨rfl, rfl⟩, rows_st (f := prF) (fun _ => rfl) rfl rfl (hge 6 _ rfl rfl) (hLo 6 (by simp) _ rfl) w3 k3, by (show ([] : List (Int × Int)).length ≤ 1000000); omega, by (show R.length ≤ 1000000); omega⟩)⟩)
     · have hO2 := fun w' hb => (hO60 w' hb).mono fun e w2 h => h.2 hOn
       by_cases hRn : R = []
       · subst hRn
         have hR1 := fun w' hb => (hR60 w' hb).mono fun e w2 h => h.1 rfl
         clear hO60 hR60
         cases D with
         | nil =>
          repeat'
           conv => whnf
           first
            | refine zA ?_ | refine zB ?_ | refine zC ?_ | refine zD ?_ | refine zE ?_ | refine zF ?_ | refine zG ?_ | refine zH ?_ | refine zJ ?_ | refine zI ?_ | refine splT ?_ | refine splF ?_ | refine splNot ?_
            | ((first | refine splIn ?_ ?_ | refine splD ?_ ?_ | refine splE ?_ ?_ | refine splNE ?_ ?_) <;> intro hc <;> first | (exfalso; omega) | (exfalso; dsimp only at hc; omega) | skip)
            | refine Exists.intro (α := List Value) [.slice oo O.length oc, iv s1, iv s2, iv pay, iv lot, iv rent, .slice ro ([] : List (Int × Int)).length rc, iv cold, iv cut] ⟨⟨rfl, fun w' hw' => e0 w' hw'.1⟩, ?_⟩
            | ((with_reducible show CallEv _ _ 60 [.v (.slice oo O.length oc)] _ _ _ _); refine callO 6 [] (.os 6 7 O.length) O.length 2 (O.flatMap prF) 55 rfl (fun β w' _ hbw => (hO2 w' hbw.1).mono fun _ _ ⟨b, c, h1, h2, h3, h4⟩ => ⟨b, c, h1, h2, h3, h4⟩) ?_)
            | ((with_reducible show CallEv _ _ 60 [.v (.slice ro ([] : List (Int × Int)).length rc)] _ _ _ _); refine callE (k := 60) (fun β w' hbw => hR1 w' hbw.1) ?_)
            | refine appG env 8 1 1 [.os 6 7 O.length, .v (iv s1), .v (iv s2), .v (iv pay), .v (iv lot), .v (iv rent), .v (.slice none 0 0), .v (iv cold), .v (iv cut)] 57 0 [] [] rfl rfl rfl rfl rfl (by decide) rfl rfl rfl (fun _ => Nat.le_refl _) (by omega) (by decide) rfl (.inl ⟨rfl, rfl, rfl, rfl⟩) rfl ?_
          all_goals first | (exfalso; omega) | skip
          exact Dis.mk5 (w0 := w) (rho [(3, 9), (4, 10)]) [6] (by exact trivial) (fun i hi => by rw [List.mem_singleton] at hi; subst hi; exact ⟨_, rfl, rfl⟩) (fun w' h => h.1) (fun β w1 hok hw1 hge hne hij => ⟨[] ++ [(⟨some ⟨β 6, 0, none⟩, β 7, none, 0, ⟨O, s1, s2, pay, lot, rent, [], cold, cut⟩⟩ : Tn)], ⟨⟨by (show 1 ≤ T.length); omega, hnew (⟨some ⟨β 6, 0, none⟩, β 7, none, 0, ⟨O, s1, s2, pay, lot, rent, [], cold, cut⟩⟩ : Tn) rfl⟩, by (have hn0 : n = 0 := hn.symm); (show T.length - 1 < T.length - n); omega⟩, ⟨⟨_, rfl, rfl⟩, ⟨_, rfl, rfl⟩, ⟨_, rfl, rfl⟩, ⟨_, rfl, by rw [← hn]; rfl⟩, trivial⟩,
           ⟨⟨rfl, _, rfl, fun _ => rfl, fun w2 y hy => hy⟩, ⟨rfl, _, rfl, fun _ => rfl, fun w2 y hy => hy⟩, ⟨rfl, _, rfl, fun _ => rfl, fun w2 y hy => hy⟩, ⟨rfl, _, rfl, fun _ => rfl, fun w2 y hy => hy⟩, trivial⟩, rfl, fun w2 hw2 hLo => hh (⟨some ⟨β 6, 0, none⟩, β 7, none, 0, ⟨O, s1, s2, pay, lot, rent, [], cold, cut⟩⟩ : Tn) w2 hw2 rfl (fun w3 k3 => ⟨rows_st (f := prF) (fun _ => rfl) rfl rfl (hge 6 _ rfl rfl) (hLo 6 (by simp) _ rfl) w3 k3, .inl ⟨rfl, rfl⟩, by (show O.length ≤ 1000000); omega, by (show ([] : List (Int × Int)).length ≤ 1000000); omega⟩)⟩)
         | cons a D =>
          simp only [List.length_cons] at hn
          have hl3 : ∀ t : Tn, (a :: D ++ [t]).length = D.length + 1 + 1 := fun t => by rw [hl2]; omega
          have hoS : ∀ t : Tn, oSV 3 4 (a :: D ++ [t]) = .os 3 4 (D.length + 1 + 1) := fun t => by simp [oSV]
          repeat'
           conv => whnf
           first
            | refine zA ?_ | refine zB ?_ | refine zC ?_ | refine zD ?_ | refine zE ?_ | refine zF ?_ | refine zG ?_ | refine zH ?_ | refine zJ ?_ | refine zI ?_ | refine splT ?_ | refine splF ?_ | refine splNot ?_
            | ((first | refine splIn ?_ ?_ | refine splD ?_ ?_ | refine splE ?_ ?_ | refine splNE ?_ ?_) <;> intro hc <;> first | (exfalso; omega) | (exfalso; dsimp only at hc; omega) | skip)
            | refine Exists.intro (α := List Value) [.slice oo O.length oc, iv s1, iv s2, iv pay, iv lot, iv rent, .slice ro ([] : List (Int × Int)).length rc, iv cold, iv cut] ⟨⟨rfl, fun w' hw' => e0 w' hw'.1⟩, ?_⟩
            | ((with_reducible show CallEv _ _ 60 [.v (.slice oo O.length oc)] _ _ _ _); refine callO 6 [] (.os 6 7 O.length) O.length 2 (O.flatMap prF) 55 rfl (fun β w' _ hbw => (hO2 w' hbw.1).mono fun _ _ ⟨b, c, h1, h2, h3, h4⟩ => ⟨b, c, h1, h2, h3, h4⟩) ?_)
            | ((with_reducible show CallEv _ _ 60 [.v (.slice ro ([] : List (Int × Int)).length rc)] _ _ _ _); refine callE (k := 60) (fun β w' hbw => hR1 w' hbw.1) ?_)
            | refine appG env 8 1 1 [.os 6 7 O.length, .v (iv s1), .v (iv s2), .v (iv pay), .v (iv lot), .v (iv rent), .v (.slice none 0 0), .v (iv cold), .v (iv cut)] 57 (D.length + 1) ((a :: D).flatMap Tn.cs) [3] rfl rfl rfl rfl rfl (by decide) rfl rfl rfl (fun h => by cases h) (by omega) (by show (D.length + 1 + 1) * 104 ≤ 140737488355328; omega) rfl (.inr ⟨3, 4, rfl, rfl, rfl, (by show 3 < 9; decide)⟩) rfl ?_
          all_goals first | (exfalso; omega) | skip
          exact Dis.mk5 (w0 := w) (rho [(3, 9), (4, 10)]) [6] (by exact trivial) (fun i hi => by rw [List.mem_singleton] at hi; subst hi; exact ⟨_, rfl, rfl⟩) (fun w' h => h.1) (fun β w1 hok hw1 hge hne hij => ⟨a :: D ++ [(⟨some ⟨β 6, 0, none⟩, β 7, none, 0, ⟨O, s1, s2, pay, lot, rent, [], cold, cut⟩⟩ : Tn)], ⟨⟨by have := hl3 (⟨some ⟨β 6, 0, none⟩, β 7, none, 0, ⟨O, s1, s2, pay, lot, rent, [], cold, cut⟩⟩ : Tn); omega, hnew (⟨some ⟨β 6, 0, none⟩, β 7, none, 0, ⟨O, s1, s2, pay, lot, rent, [], cold, cut⟩⟩ : Tn) rfl⟩, by have := hl3 (⟨some ⟨β 6, 0, none⟩, β 7, none, 0, ⟨O, s1, s2, pay, lot, rent, [], cold, cut⟩⟩ : Tn); omega⟩, ⟨⟨_, rfl, rfl⟩, ⟨_, rfl, rfl⟩, ⟨_, rfl, rfl⟩, ⟨_, rfl, by rw [hl3 (⟨some ⟨β 6, 0, none⟩, β 7, none, 0, ⟨O, s1, s2, pay, lot, rent, [], cold, cut⟩⟩ : Tn), ← hn]; rfl⟩, trivial⟩,
           ⟨⟨rfl, _, rfl, fun _ => rfl, fun w2 y hy => hy⟩, ⟨rfl, _, rfl, fun _ => rfl, fun w2 y hy => hy⟩, ⟨rfl, _, rfl, fun _ => rfl, fun w2 y hy => by rw [hoS (⟨some ⟨β 6, 0, none⟩, β 7, none, 0, ⟨O, s1, s2, pay, lot, rent, [], cold, cut⟩⟩ : Tn)]; exact hy⟩, by simp [oM]; exact ⟨⟨rfl, _, rfl, fun _ => rfl, fun w2 y hy => by simp [Blk.ok] at hy ⊢; exact hy⟩, trivial⟩⟩, rfl, fun w2 hw2 hLo => hh (⟨some ⟨β 6, 0, none⟩, β 7, none, 0, ⟨O, s1, s2, pay, lot, rent, [], cold, cut⟩⟩ : Tn) w2 hw2 rfl (fun w3 k3 => ⟨rows_st (f := prF) (fun _ => rfl) rfl rfl (hge 6 _ rfl rfl) (hLo 6 (by simp) _ rfl) w3 k3, .inl ⟨rfl, rfl⟩, by (show O.length ≤ 1000000); omega, by (show ([] : List (Int × Int)).length ≤ 1000000); omega⟩)⟩)
       · have hR2 := fun w' hb => (hR60 w' hb).mono fun e w2 h => h.2 hRn
         clear hO60 hR60
         cases D with
         | nil =>
          repeat'
           conv => whnf
           first
            | refine zA ?_ | refine zB ?_ | refine zC ?_ | refine zD ?_ | refine zE ?_ | refine zF ?_ | refine zG ?_ | refine zH ?_ | refine zJ ?_ | refine zI ?_ | refine splT ?_ | refine splF ?_ | refine splNot ?_
            | ((first | refine splIn ?_ ?_ | refine splD ?_ ?_ | refine splE ?_ ?_ | refine splNE ?_ ?_) <;> intro hc <;> first | (exfalso; omega) | (exfalso; dsimp only at hc; omega) | skip)
            | refine Exists.intro (α := List Value) [.slice oo O.length oc, iv s1, iv s2, iv pay, iv lot, iv rent, .slice ro R.length rc, iv cold, iv cut] ⟨⟨rfl, fun w' hw' => e0 w' hw'.1⟩, ?_⟩
            | ((with_reducible show CallEv _ _ 60 [.v (.slice oo O.length oc)] _ _ _ _); refine callO 6 [] (.os 6 7 O.length) O.length 2 (O.flatMap prF) 55 rfl (fun β w' _ hbw => (hO2 w' hbw.1).mono fun _ _ ⟨b, c, h1, h2, h3, h4⟩ => ⟨b, c, h1, h2, h3, h4⟩) ?_)
            | ((with_reducible show CallEv _ _ 60 [.v (.slice ro R.length rc)] _ _ _ _); refine callO 8 [] (.os 8 9 R.length) R.length 2 (R.flatMap prF) 55 rfl (fun β w' _ hbw => (hR2 w' hbw.1).mono fun _ _ ⟨b, c, h1, h2, h3, h4⟩ => ⟨b, c, h1, h2, h3, h4⟩) ?_)
            | refine appG env 10 1 1 [.os 6 7 O.length, .v (iv s1), .v (iv s2), .v (iv pay), .v (iv lot), .v (iv rent), .os 8 9 R.length, .v (iv cold), .v (iv cut)] 57 0 [] [] rfl rfl rfl rfl rfl (by decide) rfl rfl rfl (fun _ => Nat.le_refl _) (by omega) (by decide) rfl (.inl ⟨rfl, rfl, rfl, rfl⟩) rfl ?_
          all_goals first | (exfalso; omega) | skip
          exact Dis.mk5 (w0 := w) (rho [(3, 11), (4, 12)]) [6, 8] (by exact trivial) (fun i hi => by simp only [List.mem_cons, List.not_mem_nil, or_false] at hi; rcases hi with rfl | rfl <;> exact ⟨_, rfl, rfl⟩) (fun w' h => h.1) (fun β w1 hok hw1 hge hne hij => ⟨[] ++ [(⟨some ⟨β 6, 0, none⟩, β 7, some ⟨β 8, 0, none⟩, β 9, ⟨O, s1, s2, pay, lot, rent, R, cold, cut⟩⟩ : Tn)], ⟨⟨by (show 1 ≤ T.length); omega, hnew (⟨some ⟨β 6, 0, none⟩, β 7, some ⟨β 8, 0, none⟩, β 9, ⟨O, s1, s2, pay, lot, rent, R, cold, cut⟩⟩ : Tn) rfl⟩, by (have hn0 : n = 0 := hn.symm); (show T.length - 1 < T.length - n); omega⟩, ⟨⟨_, rfl, rfl⟩, ⟨_, rfl, rfl⟩, ⟨_, rfl, rfl⟩, ⟨_, rfl, by rw [← hn]; rfl⟩, trivial⟩,
           ⟨⟨rfl, _, rfl, fun _ => rfl, fun w2 y hy => hy⟩, ⟨rfl, _, rfl, fun _ => rfl, fun w2 y hy => hy⟩, ⟨rfl, _, rfl, fun _ => rfl, fun w2 y hy => hy⟩, ⟨rfl, _, rfl, fun _ => rfl, fun w2 y hy => hy⟩, trivial⟩, rfl, fun w2 hw2 hLo => hh (⟨some ⟨β 6, 0, none⟩, β 7, some ⟨β 8, 0, none⟩, β 9, ⟨O, s1, s2, pay, lot, rent, R, cold, cut⟩⟩ : Tn) w2 hw2 rfl (fun w3 k3 => ⟨rows_st (f := prF) (fun _ => rfl) rfl rfl (hge 6 _ rfl rfl) (hLo 6 (by simp) _ rfl) w3 k3, rows_st (f := prF) (fun _ => rfl) rfl rfl (hge 8 _ rfl rfl) (hLo 8 (by simp) _ rfl) w3 k3, by (show O.length ≤ 1000000); omega, by (show R.length ≤ 1000000); omega⟩)⟩)
         | cons a D =>
          simp only [List.length_cons] at hn
          have hl3 : ∀ t : Tn, (a :: D ++ [t]).length = D.length + 1 + 1 := fun t => by rw [hl2]; omega
          have hoS : ∀ t : Tn, oSV 3 4 (a :: D ++ [t]) = .os 3 4 (D.length + 1 + 1) := fun t => by simp [oSV]
          repeat'
           conv => whnf
           first
            | refine zA ?_ | refine zB ?_ | refine zC ?_ | refine zD ?_ | refine zE ?_ | refine zF ?_ | refine zG ?_ | refine zH ?_ | refine zJ ?_ | refine zI ?_ | refine splT ?_ | refine splF ?_ | refine splNot ?_
            | ((first | refine splIn ?_ ?_ | refine splD ?_ ?_ | refine splE ?_ ?_ | refine splNE ?_ ?_) <;> intro hc <;> first | (exfalso; omega) | (exfalso; dsimp only at hc; omega) | skip)
            | refine Exists.intro (α := List Value) [.slice oo O.length oc, iv s1, iv s2, iv pay, iv lot, iv rent, .slice ro R.length rc, iv cold, iv cut] ⟨⟨rfl, fun w' hw' => e0 w' hw'.1⟩, ?_⟩
            | ((with_reducible show CallEv _ _ 60 [.v (.slice oo O.length oc)] _ _ _ _); refine callO 6 [] (.os 6 7 O.length) O.length 2 (O.flatMap prF) 55 rfl (fun β w' _ hbw => (hO2 w' hbw.1).mono fun _ _ ⟨b, c, h1, h2, h3, h4⟩ => ⟨b, c, h1, h2, h3, h4⟩) ?_)
            | ((with_reducible show CallEv _ _ 60 [.v (.slice ro R.length rc)] _ _ _ _); refine callO 8 [] (.os 8 9 R.length) R.length 2 (R.flatMap prF) 55 rfl (fun β w' _ hbw => (hR2 w' hbw.1).mono fun _ _ ⟨b, c, h1, h2, h3, h4⟩ => ⟨b, c, h1, h2, h3, h4⟩) ?_)
            | refine appG env 10 1 1 [.os 6 7 O.length, .v (iv s1), .v (iv s2), .v (iv pay), .v (iv lot), .v (iv rent), .os 8 9 R.length, .v (iv cold), .v (iv cut)] 57 (D.length + 1) ((a :: D).flatMap Tn.cs) [3] rfl rfl rfl rfl rfl (by decide) rfl rfl rfl (fun h => by cases h) (by omega) (by show (D.length + 1 + 1) * 104 ≤ 140737488355328; omega) rfl (.inr ⟨3, 4, rfl, rfl, rfl, (by show 3 < 11; decide)⟩) rfl ?_
          all_goals first | (exfalso; omega) | skip
          exact Dis.mk5 (w0 := w) (rho [(3, 11), (4, 12)]) [6, 8] (by exact trivial) (fun i hi => by simp only [List.mem_cons, List.not_mem_nil, or_false] at hi; rcases hi with rfl | rfl <;> exact ⟨_, rfl, rfl⟩) (fun w' h => h.1) (fun β w1 hok hw1 hge hne hij => ⟨a :: D ++ [(⟨some ⟨β 6, 0, none⟩, β 7, some ⟨β 8, 0, none⟩, β 9, ⟨O, s1, s2, pay, lot, rent, R, cold, cut⟩⟩ : Tn)], ⟨⟨by have := hl3 (⟨some ⟨β 6, 0, none⟩, β 7, some ⟨β 8, 0, none⟩, β 9, ⟨O, s1, s2, pay, lot, rent, R, cold, cut⟩⟩ : Tn); omega, hnew (⟨some ⟨β 6, 0, none⟩, β 7, some ⟨β 8, 0, none⟩, β 9, ⟨O, s1, s2, pay, lot, rent, R, cold, cut⟩⟩ : Tn) rfl⟩, by have := hl3 (⟨some ⟨β 6, 0, none⟩, β 7, some ⟨β 8, 0, none⟩, β 9, ⟨O, s1, s2, pay, lot, rent, R, cold, cut⟩⟩ : Tn); omega⟩, ⟨⟨_, rfl, rfl⟩, ⟨_, rfl, rfl⟩, ⟨_, rfl, rfl⟩, ⟨_, rfl, by rw [hl3 (⟨some ⟨β 6, 0, none⟩, β 7, some ⟨β 8, 0, none⟩, β 9, ⟨O, s1, s2, pay, lot, rent, R, cold, cut⟩⟩ : Tn), ← hn]; rfl⟩, trivial⟩,
           ⟨⟨rfl, _, rfl, fun _ => rfl, fun w2 y hy => hy⟩, ⟨rfl, _, rfl, fun _ => rfl, fun w2 y hy => hy⟩, ⟨rfl, _, rfl, fun _ => rfl, fun w2 y hy => by rw [hoS (⟨some ⟨β 6, 0, none⟩, β 7, some ⟨β 8, 0, none⟩, β 9, ⟨O, s1, s2, pay, lot, rent, R, cold, cut⟩⟩ : Tn)]; exact hy⟩, by simp [oM]; exact ⟨⟨rfl, _, rfl, fun _ => rfl, fun w2 y hy => by simp [Blk.ok] at hy ⊢; exact hy⟩, trivial⟩⟩, rfl, fun w2 hw2 hLo => hh (⟨some ⟨β 6, 0, none⟩, β 7, some ⟨β 8, 0, none⟩, β 9, ⟨O, s1, s2, pay, lot, rent, R, cold, cut⟩⟩ : Tn) w2 hw2 rfl (fun w3 k3 => ⟨rows_st (f := prF) (fun _ => rfl) rfl rfl (hge 6 _ rfl rfl) (hLo 6 (by simp) _ rfl) w3 k3, rows_st (f := prF) (fun _ => rfl) rfl rfl (hge 8 _ rfl rfl) (hLo 8 (by simp) _ rfl) w3 k3, by (show O.length ≤ 1000000); omega, by (show R.length ≤ 1000000); omega⟩)⟩)
   · have hk2 : D.length = T.length := by omega
     rw [hk2, List.take_of_length_le (Nat.le_of_eq (List.length_map ..))] at hmap
     cases D with
     | nil =>
      have hT0 : T = [] := List.length_eq_zero_iff.1 hk2.symm
      subst hT0
      repeat'
       conv => whnf
       first
        | refine zA ?_ | refine zB ?_ | refine zC ?_ | refine zD ?_ | refine zE ?_ | refine zF ?_ | refine zG ?_ | refine zH ?_ | refine zJ ?_ | refine zI ?_ | refine splT ?_ | refine splF ?_ | refine splNot ?_
        | ((first | refine splIn ?_ ?_ | refine splD ?_ ?_ | refine splE ?_ ?_ | refine splNE ?_ ?_) <;> intro hc <;> first | (exfalso; omega) | (exfalso; dsimp only at hc; omega) | skip)
      all_goals first | (exfalso; omega) | skip
      exact ⟨rfl, Dis.ent (x := ((none, 0), [])) ⟨rfl, Nat.le_refl _⟩ (Ent.weak rfl ⟨rfl, rfl, rfl, trivial⟩ ⟨rfl, rfl, rfl, trivial⟩ fun w2 h => ⟨h.1, fun _ _ => .inl ⟨rfl, rfl⟩, fun t ht => by cases ht⟩)⟩
     | cons a D =>
      simp only [List.length_cons] at hk2
      repeat'
       conv => whnf
       first
        | refine zA ?_ | refine zB ?_ | refine zC ?_ | refine zD ?_ | refine zE ?_ | refine zF ?_ | refine zG ?_ | refine zH ?_ | refine zJ ?_ | refine zI ?_ | refine splT ?_ | refine splF ?_ | refine splNot ?_
        | ((first | refine splIn ?_ ?_ | refine splD ?_ ?_ | refine splE ?_ ?_ | refine splNE ?_ ?_) <;> intro hc <;> first | (exfalso; omega) | (exfalso; dsimp only at hc; omega) | skip)
      all_goals first | (exfalso; omega) | skip
      exact ⟨rfl, Dis.mk5 (w0 := w) id [3] (by exact trivial) (fun i hi => by rw [List.mem_singleton] at hi; subst hi; exact ⟨_, rfl, rfl⟩) (fun w' h => h.1) (fun β w1 hok hw1 hge hne hij => ⟨((some ⟨β 3, 0, none⟩, β 4), a :: D), ⟨hmap, by have := own_cap (hok 3 _ rfl); (show T.length ≤ β 4); omega⟩, ⟨⟨_, rfl, rfl⟩, ⟨_, rfl, rfl⟩, ⟨_, rfl, rfl⟩, trivial⟩, ⟨⟨rfl, _, rfl, fun _ => rfl, fun w2 y hy => hy⟩, ⟨rfl, _, rfl, fun _ => rfl, fun w2 y hy => hy⟩, ⟨rfl, _, rfl, fun _ => rfl, fun w2 y hy => by rw [← hk2]; exact hy⟩, trivial⟩, rfl, fun w2 hw2 hLo => ⟨hw2.1, by rw [← hk2]; exact rows_st (f := Tn.cs) (fun _ => rfl) rfl rfl (hge 3 _ rfl rfl) (hLo 3 (by simp) _ rfl), hw2.2⟩⟩)⟩
 · intro y ⟨hyd, hyc⟩
   have hyl : y.2.length = T.length := by have := congrArg List.length hyd; simpa using this
   refine VC.of env mixed ?_
   repeat'
    conv => whnf
    first
     | refine zA ?_ | refine zB ?_ | refine zC ?_ | refine zD ?_ | refine zE ?_ | refine zF ?_ | refine zG ?_ | refine zH ?_ | refine zJ ?_ | refine zI ?_ | refine splT ?_ | refine splF ?_ | refine splNot ?_
     | ((first | refine splIn ?_ ?_ | refine splD ?_ ?_ | refine splE ?_ ?_ | refine splNE ?_ ?_) <;> intro hc <;> first | (exfalso; omega) | (exfalso; dsimp only at hc; omega) | skip)
   all_goals first | (exfalso; omega) | skip
   refine loopD 5 (fun E : List Lr => [(1, .ptr 0 0), (2, .ptr 1 0), (3, .ptr 2 0), (6, .v (iv E.length))]) (fun E => (0, .cells [.v (iv days), .v (iv shift), .v (iv size), .v (.slice to T.length tc), .v (.slice lo L.length lc)] 25) :: (1, .cells [.v (iv 0), .v (iv 0), .v (iv 0), .v (.slice none 0 0), .v (.slice none 0 0)] 35) :: (2, .cells [.v (iv days), .v (iv shift), .v (iv size), .v (.slice y.1.1 T.length y.1.2), oSV 3 4 E] 35) :: (oM 3 4 1 Lr.cs 61 E)) (fun (E : List Lr) w' => (Below w.heap.size w w' ∧ (St w.heap.size (Rd 9 Tn.cs (.slice y.1.1 T.length y.1.2) y.2) w' ∧ ∀ t ∈ y.2, St w.heap.size (TnIn t) w')) ∧ ∀ r ∈ E, St w.heap.size (Rd 2 prF (.slice r.o r.L.length r.c) r.L) w') (fun E => E.length ≤ L.length ∧ E.map Lr.L = (L.map Lr.L).take E.length) (fun E => L.length - E.length)
    (Dis.ent (x := []) ⟨Nat.zero_le _, rfl⟩ (Ent.weak rfl ⟨rfl, rfl, rfl, rfl, trivial⟩ ⟨rfl, rfl, rfl, trivial⟩ (fun w' h => ⟨h, fun p hp => by cases hp⟩))) (fun E _ => by cases E <;> exact ⟨rfl, rfl⟩) ?_
   intro E ⟨hk, hmap⟩
   rcases Nat.lt_or_ge E.length L.length with hkl | hkl
   · obtain ⟨⟨ro, rc, row⟩, hx⟩ : ∃ b, L[E.length]? = some b := ⟨_, List.getElem?_eq_getElem hkl⟩
     obtain ⟨_, al, rfl, _⟩ := hL.ptr (by omega)
     have e0 := fun (w' : World) hw' => rd_ati (hL.below (w' := w') hw') hx
     have hrow := hLi _ (List.mem_of_getElem? hx)
     have hbl := hBl _ (List.mem_of_getElem? hx)
     dsimp only at hrow hbl
     have hm : (L.map Lr.L)[E.length]? = some row := by rw [List.getElem?_map, hx]; rfl
     have hnew : ∀ t : Lr, t.L = row → (E ++ [t]).map Lr.L = (L.map Lr.L).take (E ++ [t]).length := fun t ht => by
      rw [List.map_append, hmap, List.length_append, List.length_singleton, List.take_add_one, hm]
      show _ ++ [t.L] = _
      rw [ht]; rfl
     have hl2 : ∀ t : Lr, (E ++ [t]).length = E.length + 1 := fun t => by simp
     have hh : ∀ (t : Lr) w', (fun (E : List Lr) w' => (Below w.heap.size w w' ∧ (St w.heap.size (Rd 9 Tn.cs (.slice y.1.1 T.length y.1.2) y.2) w' ∧ ∀ t ∈ y.2, St w.heap.size (TnIn t) w')) ∧ ∀ r ∈ E, St w.heap.size (Rd 2 prF (.slice r.o r.L.length r.c) r.L) w') E w' → St w.heap.size (Rd 2 prF (.slice t.o t.L.length t.c) t.L) w' → (fun (E : List Lr) w' => (Below w.heap.size w w' ∧ (St w.heap.size (Rd 9 Tn.cs (.slice y.1.1 T.length y.1.2) y.2) w' ∧ ∀ t ∈ y.2, St w.heap.size (TnIn t) w')) ∧ ∀ r ∈ E, St w.heap.size (Rd 2 prF (.slice r.o r.L.length r.c) r.L) w') (E ++ [t]) w' := fun t w' hw' ht => ⟨hw'.1, fun r hr => by
      rcases List.mem_append.1 hr with hr | hr
      · exact hw'.2 r hr
      · rw [List.mem_singleton] at hr; subst hr; exact ht⟩
     generalize hn : E.length = n at *
     cases E with
     | nil =>
      repeat'
       conv => whnf
       first
        | refine zA ?_ | refine zB ?_ | refine zC ?_ | refine zD ?_ | refine zE ?_ | refine zF ?_ | refine zG ?_ | refine zH ?_ | refine zJ ?_ | refine zI ?_ | refine splT ?_ | refine splF ?_ | refine splNot ?_
        | ((first | refine splIn ?_ ?_ | refine splD ?_ ?_ | refine splE ?_ ?_ | refine splNE ?_ ?_) <;> intro hc <;> first | (exfalso; omega) | (exfalso; dsimp only at hc; omega) | skip)
        | refine Exists.intro (α := List Value) [.slice ro row.length rc] ⟨⟨rfl, fun w' hw' => e0 w' hw'.1.1⟩, ?_⟩
      all_goals first | (exfalso; omega) | skip
      refine loopN 7 (fun j : Nat => [(1, .ptr 0 0), (2, .ptr 1 0), (3, .ptr 2 0), (6, .v (iv n)), (7, oSV 5 6 (row.take j)), (8, .v (iv j))]) (fun j => (0, .cells [.v (iv days), .v (iv shift), .v (iv size), .v (.slice to T.length tc), .v (.slice (some al) L.length lc)] 25) :: (1, .cells [.v (iv 0), .v (iv 0), .v (iv 0), .v (.slice none 0 0), .v (.slice none 0 0)] 35) :: (2, .cells [.v (iv days), .v (iv shift), .v (iv size), .v (.slice y.1.1 T.length y.1.2), oSV 3 4 ([] : List Lr)] 35) :: (oM 3 4 1 Lr.cs 61 ([] : List Lr) ++ oM 5 6 2 prF 60 (row.take j))) (fun j => j ≤ row.length) (fun j => row.length - j) 0 (Nat.zero_le _) ⟨rfl, rfl, rfl, rfl, rfl, rfl, trivial⟩ ⟨rfl, rfl, rfl, trivial⟩ (fun j _ => by cases row.take j <;> exact ⟨rfl, rfl⟩) ?_
      intro j hj
      rcases Nat.lt_or_ge j row.length with hjl | hjl
      · obtain ⟨⟨p1, p2⟩, hp⟩ : ∃ p, row[j]? = some p := ⟨_, List.getElem?_eq_getElem hjl⟩
        obtain ⟨_, ar, rfl, _⟩ := hrow.ptr (by omega)
        have e1 := fun (w' : World) hw' => rd_fldz (hrow.below (w' := w') hw') hp _ rfl 0 (iv p1) rfl
        have e2 := fun (w' : World) hw' => rd_fldz (hrow.below (w' := w') hw') hp _ rfl 1 (iv p2) rfl
        have ht : row.take (j + 1) = row.take j ++ [(p1, p2)] := by rw [List.take_add_one, hp]; rfl
        have hlen : (row.take j).length = j := by rw [List.length_take]; omega
        generalize row.take j = P at *
        cases P with
        | nil =>
         repeat'
          conv => whnf
          first
           | refine zA ?_ | refine zB ?_ | refine zC ?_ | refine zD ?_ | refine zE ?_ | refine zF ?_ | refine zG ?_ | refine zH ?_ | refine zJ ?_ | refine zI ?_ | refine splT ?_ | refine splF ?_ | refine splNot ?_
           | ((first | refine splIn ?_ ?_ | refine splD ?_ ?_ | refine splE ?_ ?_ | refine splNE ?_ ?_) <;> intro hc <;> first | (exfalso; omega) | (exfalso; dsimp only at hc; omega) | skip)
           | refine Exists.intro (α := List Value) [.slice (some ar) row.length rc] ⟨⟨rfl, fun w' hw' => e0 w' hw'.1.1⟩, ?_⟩
           | refine Exists.intro (α := List Value) [iv p1] ⟨⟨rfl, fun w' hw' => e1 w' hw'.1.1⟩, ?_⟩
           | refine Exists.intro (α := List Value) [iv p2] ⟨⟨rfl, fun w' hw' => e2 w' hw'.1.1⟩, ?_⟩
         all_goals first | (exfalso; omega) | exact ⟨j + 1, by omega, by omega, Ent.ren (rho [(5, 8), (6, 9)]) rfl (by rw [ht]; rfl) ⟨rfl, rfl, rfl, rfl, by rw [ht]; rfl, rfl, trivial⟩ (by rw [ht]; exact ⟨rfl, rfl, rfl, rfl, trivial⟩) fun _ h => h⟩
        | cons q P =>
         simp only [List.length_cons] at hlen
         repeat'
          conv => whnf
          first
           | refine zA ?_ | refine zB ?_ | refine zC ?_ | refine zD ?_ | refine zE ?_ | refine zF ?_ | refine zG ?_ | refine zH ?_ | refine zJ ?_ | refine zI ?_ | refine splT ?_ | refine splF ?_ | refine splNot ?_
           | ((first | refine splIn ?_ ?_ | refine splD ?_ ?_ | refine splE ?_ ?_ | refine splNE ?_ ?_) <;> intro hc <;> first | (exfalso; omega) | (exfalso; dsimp only at hc; omega) | skip)
           | refine Exists.intro (α := List Value) [.slice (some ar) row.length rc] ⟨⟨rfl, fun w' hw' => e0 w' hw'.1.1⟩, ?_⟩
           | refine Exists.intro (α := List Value) [iv p1] ⟨⟨rfl, fun w' hw' => e1 w' hw'.1.1⟩, ?_⟩
           | refine Exists.intro (α := List Value) [iv p2] ⟨⟨rfl, fun w' hw' => e2 w' hw'.1.1⟩, ?_⟩
         all_goals first | (exfalso; omega) | exact ⟨j + 1, by omega, by omega, Ent.ren (rho [(5, 8), (6, 9)]) rfl (by rw [ht]; rfl) ⟨rfl, rfl, rfl, rfl, by rw [ht]; simp [oSV]; rfl, rfl, trivial⟩ (by rw [ht]; exact ⟨rfl, rfl, rfl, by simp [oM]; rfl, trivial⟩) fun _ h => h⟩
      · obtain rfl : j = row.length := by omega
        rw [List.take_length]
        cases row with
        | nil =>
         repeat'
          conv => whnf
          first
           | refine zA ?_ | refine zB ?_ | refine zC ?_ | refine zD ?_ | refine zE ?_ | refine zF ?_ | refine zG ?_ | refine zH ?_ | refine zJ ?_ | refine zI ?_ | refine splT ?_ | refine splF ?_ | refine splNot ?_
           | ((first | refine splIn ?_ ?_ | refine splD ?_ ?_ | refine splE ?_ ?_ | refine splNE ?_ ?_) <;> intro hc <;> first | (exfalso; omega) | (exfalso; dsimp only at hc; omega) | skip)
           | refine Exists.intro (α := List Value) [.slice ro ([] : List (Int × Int)).length rc] ⟨⟨rfl, fun w' hw' => e0 w' hw'.1.1⟩, ?_⟩
         all_goals first | (exfalso; omega) | skip
         exact Dis.ent (x := ([] : List Lr) ++ [(⟨none, 0, []⟩ : Lr)]) ⟨⟨by have := hl2 (⟨none, 0, []⟩ : Lr); omega, hnew (⟨none, 0, []⟩ : Lr) rfl⟩, by have := hl2 (⟨none, 0, []⟩ : Lr); omega⟩ (Ent.ren (rho [(3, 8), (4, 9)]) rfl rfl ⟨rfl, rfl, rfl, by rw [hl2 (⟨none, 0, []⟩ : Lr), ← hn]; rfl, trivial⟩ ⟨rfl, rfl, rfl, rfl, trivial⟩ fun w2 hw2 => hh (⟨none, 0, []⟩ : Lr) w2 hw2 fun _ _ => .inl ⟨rfl, rfl⟩)
        | cons p P =>
         repeat'
          conv => whnf
          first
           | refine zA ?_ | refine zB ?_ | refine zC ?_ | refine zD ?_ | refine zE ?_ | refine zF ?_ | refine zG ?_ | refine zH ?_ | refine zJ ?_ | refine zI ?_ | refine splT ?_ | refine splF ?_ | refine splNot ?_
           | ((first | refine splIn ?_ ?_ | refine splD ?_ ?_ | refine splE ?_ ?_ | refine splNE ?_ ?_) <;> intro hc <;> first | (exfalso; omega) | (exfalso; dsimp only at hc; omega) | skip)
           | refine Exists.intro (α := List Value) [.slice ro (p :: P).length rc] ⟨⟨rfl, fun w' hw' => e0 w' hw'.1.1⟩, ?_⟩
           | refine appG env 7 1 1 [.os 5 6 (P.length + 1)] 61 0 [] [] rfl rfl rfl rfl rfl (by decide) rfl rfl rfl (fun _ => Nat.le_refl _) (by omega) (by decide) rfl (.inl ⟨rfl, rfl, rfl, rfl⟩) rfl ?_
         all_goals first | (exfalso; omega) | skip
         exact Dis.mk5 (w0 := w) (rho [(3, 8), (4, 9)]) [5] (by exact trivial) (fun i hi => by rw [List.mem_singleton] at hi; subst hi; exact ⟨_, rfl, rfl⟩) (fun w' h => h.1.1) (fun β w1 hok hw1 hge hne hij => ⟨([] : List Lr) ++ [(⟨some ⟨β 5, 0, none⟩, β 6, p :: P⟩ : Lr)], ⟨⟨by have := hl2 (⟨some ⟨β 5, 0, none⟩, β 6, p :: P⟩ : Lr); omega, hnew (⟨some ⟨β 5, 0, none⟩, β 6, p :: P⟩ : Lr) rfl⟩, by have := hl2 (⟨some ⟨β 5, 0, none⟩, β 6, p :: P⟩ : Lr); omega⟩, ⟨⟨_, rfl, rfl⟩, ⟨_, rfl, rfl⟩, ⟨_, rfl, rfl⟩, ⟨_, rfl, by rw [hl2 (⟨some ⟨β 5, 0, none⟩, β 6, p :: P⟩ : Lr), ← hn]; rfl⟩, trivial⟩,
          ⟨⟨rfl, _, rfl, fun _ => rfl, fun w2 y hy => hy⟩, ⟨rfl, _, rfl, fun _ => rfl, fun w2 y hy => hy⟩, ⟨rfl, _, rfl, fun _ => rfl, fun w2 y hy => hy⟩, ⟨rfl, _, rfl, fun _ => rfl, fun w2 y hy => hy⟩, trivial⟩, rfl, fun w2 hw2 hLo => hh (⟨some ⟨β 5, 0, none⟩, β 6, p :: P⟩ : Lr) w2 hw2 (rows_st (f := prF) (fun _ => rfl) rfl rfl (hge 5 _ rfl rfl) (hLo 5 (by simp) _ rfl))⟩)
     | cons a E =>
      simp only [List.length_cons] at hn
      have hoS : ∀ t : Lr, oSV 3 4 (a :: E ++ [t]) = .os 3 4 (E.length + 1 + 1) := fun t => by simp [oSV]
      repeat'
       conv => whnf
       first
        | refine zA ?_ | refine zB ?_ | refine zC ?_ | refine zD ?_ | refine zE ?_ | refine zF ?_ | refine zG ?_ | refine zH ?_ | refine zJ ?_ | refine zI ?_ | refine splT ?_ | refine splF ?_ | refine splNot ?_
        | ((first | refine splIn ?_ ?_ | refine splD ?_ ?_ | refine splE ?_ ?_ | refine splNE ?_ ?_) <;> intro hc <;> first | (exfalso; omega) | (exfalso; dsimp only at hc; omega) | skip)
        | refine Exists.intro (α := List Value) [.slice ro row.length rc] ⟨⟨rfl, fun w' hw' => e0 w' hw'.1.1⟩, ?_⟩
      all_goals first | (exfalso; omega) | skip
      refine loopN 7 (fun j : Nat => [(1, .ptr 0 0), (2, .ptr 1 0), (3, .ptr 2 0), (6, .v (iv n)), (7, oSV 5 6 (row.take j)), (8, .v (iv j))]) (fun j => (0, .cells [.v (iv days), .v (iv shift), .v (iv size), .v (.slice to T.length tc), .v (.slice (some al) L.length lc)] 25) :: (1, .cells [.v (iv 0), .v (iv 0), .v (iv 0), .v (.slice none 0 0), .v (.slice none 0 0)] 35) :: (2, .cells [.v (iv days), .v (iv shift), .v (iv size), .v (.slice y.1.1 T.length y.1.2), oSV 3 4 (a :: E : List Lr)] 35) :: (oM 3 4 1 Lr.cs 61 (a :: E : List Lr) ++ oM 5 6 2 prF 60 (row.take j))) (fun j => j ≤ row.length) (fun j => row.length - j) 0 (Nat.zero_le _) ⟨rfl, rfl, rfl, rfl, rfl, rfl, trivial⟩ ⟨rfl, rfl, rfl, rfl, trivial⟩ (fun j _ => by cases row.take j <;> exact ⟨rfl, rfl⟩) ?_
      intro j hj
      rcases Nat.lt_or_ge j row.length with hjl | hjl
      · obtain ⟨⟨p1, p2⟩, hp⟩ : ∃ p, row[j]? = some p := ⟨_, List.getElem?_eq_getElem hjl⟩
        obtain ⟨_, ar, rfl, _⟩ := hrow.ptr (by omega)
        have e1 := fun (w' : World) hw' => rd_fldz (hrow.below (w' := w') hw') hp _ rfl 0 (iv p1) rfl
        have e2 := fun (w' : World) hw' => rd_fldz (hrow.below (w' := w') hw') hp _ rfl 1 (iv p2) rfl
        have ht : row.take (j + 1) = row.take j ++ [(p1, p2)] := by rw [List.take_add_one, hp]; rfl
        have hlen : (row.take j).length = j := by rw [List.length_take]; omega
        generalize row.take j = P at *
        cases P with
        | nil =>
         repeat'
          conv => whnf
          first
           | refine zA ?_ | refine zB ?_ | refine zC ?_ | refine zD ?_ | refine zE ?_ | refine zF ?_ | refine zG ?_ | refine zH ?_ | refine zJ ?_ | refine zI ?_ | refine splT ?_ | refine splF ?_ | refine splNot ?_
           | ((first | refine splIn ?_ ?_ | refine splD ?_ ?_ | refine splE ?_ ?_ | refine splNE ?_ ?_) <;> intro hc <;> first | (exfalso; omega) | (exfalso; dsimp only at hc; omega) | skip)
           | refine Exists.intro (α := List Value) [.slice (some ar) row.length rc] ⟨⟨rfl, fun w' hw' => e0 w' hw'.1.1⟩, ?_⟩
           | refine Exists.intro (α := List Value) [iv p1] ⟨⟨rfl, fun w' hw' => e1 w' hw'.1.1⟩, ?_⟩
           | refine Exists.intro (α := List Value) [iv p2] ⟨⟨rfl, fun w' hw' => e2 w' hw'.1.1⟩, ?_⟩
         all_goals first | (exfalso; omega) | exact ⟨j + 1, by omega, by omega, Ent.ren (rho [(5, 8), (6, 9)]) rfl (by rw [ht]; rfl) ⟨rfl, rfl, rfl, rfl, by rw [ht]; rfl, rfl, trivial⟩ (by rw [ht]; exact ⟨rfl, rfl, rfl, rfl, rfl, trivial⟩) fun _ h => h⟩
        | cons q P =>
         simp only [List.length_cons] at hlen
         repeat'
          conv => whnf
          first
           | refine zA ?_ | refine zB ?_ | refine zC ?_ | refine zD ?_ | refine zE ?_ | refine zF ?_ | refine zG ?_ | refine zH ?_ | refine zJ ?_ | refine zI ?_ | refine splT ?_ | refine splF ?_ | refine splNot ?_
           | ((first | refine splIn ?_ ?_ | refine splD ?_ ?_ | refine splE ?_ ?_ | refine splNE ?_ ?_) <;> intro hc <;> first | (exfalso; omega) | (exfalso; dsimp only at hc; omega) | skip)
           | refine Exists.intro (α := List Value) [.slice (some ar) row.length rc] ⟨⟨rfl, fun w' hw' => e0 w' hw'.1.1⟩, ?_⟩
           | refine Exists.intro (α := List Value) [iv p1] ⟨⟨rfl, fun w' hw' => e1 w' hw'.1.1⟩, ?_⟩
           | refine Exists.intro (α := List Value) [iv p2] ⟨⟨rfl, fun w' hw' => e2 w' hw'.1.1⟩, ?_⟩
         all_goals first | (exfalso; omega) | exact ⟨j + 1, by omega, by omega, Ent.ren (rho [(5, 8), (6, 9)]) rfl (by rw [ht]; rfl) ⟨rfl, rfl, rfl, rfl, by rw [ht]; simp [oSV]; rfl, rfl, trivial⟩ (by rw [ht]; exact ⟨rfl, rfl, rfl, rfl, by simp [oM]; rfl, trivial⟩) fun _ h => h⟩
      · obtain rfl : j = row.length := by omega
        rw [List.take_length]
        cases row with
        | nil =>
         repeat'
          conv => whnf
          first
           | refine zA ?_ | refine zB ?_ | refine zC ?_ | refine zD ?_ | refine zE ?_ | refine zF ?_ | refine zG ?_ | refine zH ?_ | refine zJ ?_ | refine zI ?_ | refine splT ?_ | refine splF ?_ | refine splNot ?_
           | ((first | refine splIn ?_ ?_ | refine splD ?_ ?_ | refine splE ?_ ?_ | refine splNE ?_ ?_) <;> intro hc <;> first | (exfalso; omega) | (exfalso; dsimp only at hc; omega) | skip)
           | refine Exists.intro (α := List Value) [.slice ro ([] : List (Int × Int)).length rc] ⟨⟨rfl, fun w' hw' => e0 w' hw'.1.1⟩, ?_⟩
         all_goals first | (exfalso; omega) | skip
         exact Dis.ent (x := a :: E ++ [(⟨none, 0, []⟩ : Lr)]) ⟨⟨by have := hl2 (⟨none, 0, []⟩ : Lr); omega, hnew (⟨none, 0, []⟩ : Lr) rfl⟩, by have := hl2 (⟨none, 0, []⟩ : Lr); omega⟩ (Ent.ren (rho [(3, 8), (4, 9)]) rfl rfl ⟨rfl, rfl, rfl, by rw [hl2 (⟨none, 0, []⟩ : Lr), ← hn]; rfl, trivial⟩ ⟨rfl, rfl, by rw [hoS (⟨none, 0, []⟩ : Lr)]; rfl, by simp [oM]; rfl, trivial⟩ fun w2 hw2 => hh (⟨none, 0, []⟩ : Lr) w2 hw2 fun _ _ => .inl ⟨rfl, rfl⟩)
        | cons p P =>
         repeat'
          conv => whnf
          first
           | refine zA ?_ | refine zB ?_ | refine zC ?_ | refine zD ?_ | refine zE ?_ | refine zF ?_ | refine zG ?_ | refine zH ?_ | refine zJ ?_ | refine zI ?_ | refine splT ?_ | refine splF ?_ | refine splNot ?_
           | ((first | refine splIn ?_ ?_ | refine splD ?_ ?_ | refine splE ?_ ?_ | refine splNE ?_ ?_) <;> intro hc <;> first | (exfalso; omega) | (exfalso; dsimp only at hc; omega) | skip)
           | refine Exists.intro (α := List Value) [.slice ro (p :: P).length rc] ⟨⟨rfl, fun w' hw' => e0 w' hw'.1.1⟩, ?_⟩
           | refine appG env 7 1 1 [.os 5 6 (P.length + 1)] 61 (E.length + 1) ((a :: E).flatMap Lr.cs) [3] rfl rfl rfl rfl rfl (by decide) rfl rfl rfl (fun h => by cases h) (by omega) (by show (E.length + 1 + 1) * 24 ≤ 140737488355328; omega) rfl (.inr ⟨3, 4, rfl, rfl, rfl, (by show 3 < 8; decide)⟩) rfl ?_
         all_goals first | (exfalso; omega) | skip
         exact Dis.mk5 (w0 := w) (rho [(3, 8), (4, 9)]) [5] (by exact trivial) (fun i hi => by rw [List.mem_singleton] at hi; subst hi; exact ⟨_, rfl, rfl⟩) (fun w' h => h.1.1) (fun β w1 hok hw1 hge hne hij => ⟨a :: E ++ [(⟨some ⟨β 5, 0, none⟩, β 6, p :: P⟩ : Lr)], ⟨⟨by have := hl2 (⟨some ⟨β 5, 0, none⟩, β 6, p :: P⟩ : Lr); omega, hnew (⟨some ⟨β 5, 0, none⟩, β 6, p :: P⟩ : Lr) rfl⟩, by have := hl2 (⟨some ⟨β 5, 0, none⟩, β 6, p :: P⟩ : Lr); omega⟩, ⟨⟨_, rfl, rfl⟩, ⟨_, rfl, rfl⟩, ⟨_, rfl, rfl⟩, ⟨_, rfl, by rw [hl2 (⟨some ⟨β 5, 0, none⟩, β 6, p :: P⟩ : Lr), ← hn]; rfl⟩, trivial⟩,
          ⟨⟨rfl, _, rfl, fun _ => rfl, fun w2 y hy => hy⟩, ⟨rfl, _, rfl, fun _ => rfl, fun w2 y hy => hy⟩, ⟨rfl, _, rfl, fun _ => rfl, fun w2 y hy => by rw [hoS (⟨some ⟨β 5, 0, none⟩, β 6, p :: P⟩ : Lr)]; exact hy⟩, by simp [oM]; exact ⟨⟨rfl, _, rfl, fun _ => rfl, fun w2 y hy => by simp [Blk.ok] at hy ⊢; exact hy⟩, trivial⟩⟩, rfl, fun w2 hw2 hLo => hh (⟨some ⟨β 5, 0, none⟩, β 6, p :: P⟩ : Lr) w2 hw2 (rows_st (f := prF) (fun _ => rfl) rfl rfl (hge 5 _ rfl rfl) (hLo 5 (by simp) _ rfl))⟩)
   · have hk2 : E.length = L.length := by omega
     rw [hk2, List.take_of_length_le (Nat.le_of_eq (List.length_map ..))] at hmap
     have hfin : ∀ (o : Option Addr) (c : Nat) w2, ((St w.heap.size (Rd 9 Tn.cs (.slice y.1.1 T.length y.1.2) y.2) w2 ∧ ∀ t ∈ y.2, St w.heap.size (TnIn t) w2) ∧ ∀ r ∈ E, St w.heap.size (Rd 2 prF (.slice r.o r.L.length r.c) r.L) w2) → Rd 1 Lr.cs (.slice o E.length c) E w2 → TrIn ⟨days, shift, size, y.1.1, y.1.2, y.2, o, c, E⟩ w2 := fun o c w2 hw2 hr =>
      ⟨by (show Rd 9 Tn.cs (.slice y.1.1 y.2.length y.1.2) y.2 w2); rw [hyl]; exact St.now hw2.1.1, fun t ht => St.now (hw2.1.2 t ht), hr, fun r hr => St.now (hw2.2 r hr), by (show y.2.length ≤ 1000000); omega, by (show E.length ≤ 1000000); omega, fun r hr => by
       have h1 : r.L ∈ L.map Lr.L := by rw [← hmap]; exact List.mem_map.2 ⟨r, hr, rfl⟩
       obtain ⟨r', h2, h3⟩ := List.mem_map.1 h1
       have := hBl r' h2
       rw [h3] at this
       omega, by (show y.2.length ≤ y.1.2); omega⟩
     have hkeep : ∀ w1 w2, (fun (E : List Lr) w' => (Below w.heap.size w w' ∧ (St w.heap.size (Rd 9 Tn.cs (.slice y.1.1 T.length y.1.2) y.2) w' ∧ ∀ t ∈ y.2, St w.heap.size (TnIn t) w')) ∧ ∀ r ∈ E, St w.heap.size (Rd 2 prF (.slice r.o r.L.length r.c) r.L) w') E w1 → Keep w.heap.size w1 w2 → ((St w.heap.size (Rd 9 Tn.cs (.slice y.1.1 T.length y.1.2) y.2) w2 ∧ ∀ t ∈ y.2, St w.heap.size (TnIn t) w2) ∧ ∀ r ∈ E, St w.heap.size (Rd 2 prF (.slice r.o r.L.length r.c) r.L) w2) := fun w1 w2 h k => ⟨⟨h.1.2.1.keep k, fun t ht => (h.1.2.2 t ht).keep k⟩, fun r hr => (h.2 r hr).keep k⟩
     have hyd2 : ∀ (o : Option Addr) (c : Nat), Tr.d ⟨days, shift, size, y.1.1, y.1.2, y.2, o, c, E⟩ = Tr.d ⟨days, shift, size, to, tc, T, lo, lc, L⟩ := fun o c => by simp only [Tr.d, hyd, hmap]
     have hval : ∀ (o : Option Addr) (c : Nat), Value.agg #[iv days, iv shift, iv size, .slice y.1.1 T.length y.1.2, .slice o E.length c] = Tr.v ⟨days, shift, size, y.1.1, y.1.2, y.2, o, c, E⟩ := fun o c => by simp only [Tr.v, hyl]
     cases E with
     | nil =>
      repeat'
       conv => whnf
       first
        | refine zA ?_ | refine zB ?_ | refine zC ?_ | refine zD ?_ | refine zE ?_ | refine zF ?_ | refine zG ?_ | refine zH ?_ | refine zJ ?_ | refine zI ?_ | refine splT ?_ | refine splF ?_ | refine splNot ?_
        | ((first | refine splIn ?_ ?_ | refine splD ?_ ?_ | refine splE ?_ ?_ | refine splNE ?_ ?_) <;> intro hc <;> first | (exfalso; omega) | (exfalso; dsimp only at hc; omega) | skip)
      all_goals first | (exfalso; omega) | skip
      exact ⟨fun w' h => h.1.1, fun β w' hw' hblk => ⟨⟨days, shift, size, y.1.1, y.1.2, y.2, none, 0, []⟩, hval none 0, fun w2 k2 => ⟨hfin none 0 w2 (hkeep w' w2 hw' k2) (.inl ⟨rfl, rfl⟩), hyd2 none 0⟩⟩⟩
     | cons a E =>
      repeat'
       conv => whnf
       first
        | refine zA ?_ | refine zB ?_ | refine zC ?_ | refine zD ?_ | refine zE ?_ | refine zF ?_ | refine zG ?_ | refine zH ?_ | refine zJ ?_ | refine zI ?_ | refine splT ?_ | refine splF ?_ | refine splNot ?_
        | ((first | refine splIn ?_ ?_ | refine splD ?_ ?_ | refine splE ?_ ?_ | refine splNE ?_ ?_) <;> intro hc <;> first | (exfalso; omega) | (exfalso; dsimp only at hc; omega) | skip)
      all_goals first | (exfalso; omega) | skip
      exact ⟨fun w' h => h.1.1, fun β w' hw' hblk => ⟨⟨days, shift, size, y.1.1, y.1.2, y.2, some ⟨β 3, 0, none⟩, β 4, a :: E⟩, hval (some ⟨β 3, 0, none⟩) (β 4), fun w2 k2 => ⟨hfin (some ⟨β 3, 0, none⟩) (β 4) w2 (hkeep w' w2 hw' k2) (Rd.of_owns (sz := 1) (f := Lr.cs) (fun _ => rfl) rfl rfl (hblk 3 _ rfl rfl w2 k2)), hyd2 (some ⟨β 3, 0, none⟩) (β 4)⟩⟩⟩
end Go.Proofs.Ythfabodamhdhaaa
