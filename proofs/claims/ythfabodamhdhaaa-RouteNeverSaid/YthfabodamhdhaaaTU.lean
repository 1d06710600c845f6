/- Tables copied: what rows returns. -/
import Derived.Test.YthfabodamhdhaaaTY
namespace Go.Proofs.Ythfabodamhdhaaa
open Go Tx Go.RowKit
set_option linter.unusedSimpArgs false
set_option linter.unusedVariables false

set_option maxHeartbeats 4000000 in
set_option maxRecDepth 100000 in
theorem rows_ok (R : List Iw) (o : Option Addr) (c : Nat) (w : World) (hR : Rd 1 Iw.cs (.slice o R.length c) R w) (hRr : ∀ r ∈ R, Rd 1 iF (.slice r.o r.xs.length r.c) r.xs w) (hl : R.length ≤ 1000) (hrl : ∀ r ∈ R, r.xs.length ≤ 17592186043904) :
    Calls Try.prog 44 #[.slice o R.length c] w fun e w' => ∃ y : (Option Addr × Nat) × List Iw, e = .returned (.slice y.1.1 y.2.length y.1.2) ∧ Below w.heap.size w w' ∧ St w.heap.size (fun w2 => (Rd 1 Iw.cs (.slice y.1.1 y.2.length y.1.2) y.2 w2 ∧ ∀ r ∈ y.2, Rd 1 iF (.slice r.o r.xs.length r.c) r.xs w2) ∧ y.2.map Iw.xs = R.map Iw.xs) w' := by
  refine calls_famV env mixed Try.func44 has44 Try.ntmps44 [.slice o R.length c] (by simp) ?_
  refine VC.of env mixed ?_
  repeat'
   conv => whnf
   first
    | refine zA ?_ | refine zB ?_ | refine zC ?_ | refine zD ?_ | refine zE ?_ | refine zF ?_ | refine zG ?_ | refine zH ?_ | refine zJ ?_ | refine zI ?_ | refine splT ?_ | refine splF ?_ | refine splNot ?_
    | ((first | refine splIn (fun hc => ?_) (fun hc => ?_) | refine splD (fun hc => ?_) (fun hc => ?_) | refine splE (fun hc => ?_) (fun hc => ?_) | refine splNE (fun hc => ?_) (fun hc => ?_)) <;> first | (exfalso; omega) | (exfalso; dsimp only at hc; omega) | skip)
  refine loopD 3 (fun E : List Iw => [(0, .v (.slice o R.length c)), (3, oSV 1 2 E), (4, .v (iv E.length))]) (fun E => oM 1 2 1 Iw.cs 43 E) (fun (E : List Iw) w' => Below w.heap.size w w' ∧ ∀ r ∈ E, St w.heap.size (Rd 1 iF (.slice r.o r.xs.length r.c) r.xs) w') (fun E => E.length ≤ R.length ∧ E.map Iw.xs = (R.map Iw.xs).take E.length) (fun E => R.length - E.length)
    (Dis.ent (x := []) ⟨Nat.zero_le _, rfl⟩ (Ent.weak rfl ⟨rfl, rfl, rfl, trivial⟩ trivial (fun w' h => ⟨h, fun p hp => by cases hp⟩))) (fun E _ => by cases E <;> exact ⟨rfl, rfl⟩) ?_
  intro E ⟨hk, hmap⟩
  rcases Nat.lt_or_ge E.length R.length with hkl | hkl
  · obtain ⟨⟨ro, rc, row⟩, hx⟩ : ∃ b, R[E.length]? = some b := ⟨_, List.getElem?_eq_getElem hkl⟩
    obtain ⟨_, al, rfl, _⟩ := hR.ptr (by omega)
    have e0 := fun (w' : World) hw' => rd_ati (hR.below (w' := w') hw') hx
    have hrow := hRr _ (List.mem_of_getElem? hx)
    have hbl := hrl _ (List.mem_of_getElem? hx)
    dsimp only at hrow hbl
    have hm : (R.map Iw.xs)[E.length]? = some row := by rw [List.getElem?_map, hx]; rfl
    have hnew : ∀ t : Iw, t.xs = row → (E ++ [t]).map Iw.xs = (R.map Iw.xs).take (E ++ [t]).length := fun t ht => by
      rw [List.map_append, hmap, List.length_append, List.length_singleton, List.take_add_one, hm]
      show _ ++ [t.xs] = _
      rw [ht]; rfl
    have hl2 : ∀ t : Iw, (E ++ [t]).length = E.length + 1 := fun t => by simp
    have hh : ∀ (t : Iw) w', (fun (E : List Iw) w' => Below w.heap.size w w' ∧ ∀ r ∈ E, St w.heap.size (Rd 1 iF (.slice r.o r.xs.length r.c) r.xs) w') E w' → St w.heap.size (Rd 1 iF (.slice t.o t.xs.length t.c) t.xs) w' → (fun (E : List Iw) w' => Below w.heap.size w w' ∧ ∀ r ∈ E, St w.heap.size (Rd 1 iF (.slice r.o r.xs.length r.c) r.xs) w') (E ++ [t]) w' := fun t w' hw' ht => ⟨hw'.1, fun r hr => by
      rcases List.mem_append.1 hr with hr | hr
      · exact hw'.2 r hr
      · rw [List.mem_singleton] at hr; subst hr; exact ht⟩
    generalize hn : E.length = n at *
    cases E with
    | nil =>
      cases row with
      | nil =>
        have h29 := fun w' (hb : Below w.heap.size w w') => list_none ro rc w' (hrow.below hb)
        repeat'
         conv => whnf
         first
          | refine zA ?_ | refine zB ?_ | refine zC ?_ | refine zD ?_ | refine zE ?_ | refine zF ?_ | refine zG ?_ | refine zH ?_ | refine zJ ?_ | refine zI ?_ | refine splT ?_ | refine splF ?_ | refine splNot ?_
          | ((first | refine splIn (fun hc => ?_) (fun hc => ?_) | refine splD (fun hc => ?_) (fun hc => ?_) | refine splE (fun hc => ?_) (fun hc => ?_) | refine splNE (fun hc => ?_) (fun hc => ?_)) <;> first | (exfalso; omega) | (exfalso; dsimp only at hc; omega) | skip)
          | refine Exists.intro (α := List Value) [.slice ro ([] : List Int).length rc] ⟨⟨rfl, fun w' hw' => e0 w' hw'.1⟩, ?_⟩
          | ((with_reducible show CallEv _ _ 29 _ _ _ _ _); refine callE (k := 29) (fun β w' hbw => h29 w' hbw.1) ?_)
        all_goals first | (exfalso; omega) | skip
        exact Dis.ent (x := ([] : List Iw) ++ [(⟨none, 0, []⟩ : Iw)]) ⟨⟨by have := hl2 (⟨none, 0, []⟩ : Iw); omega, hnew (⟨none, 0, []⟩ : Iw) rfl⟩, by have := hl2 (⟨none, 0, []⟩ : Iw); omega⟩ (Ent.ren (rho [(1, 4), (2, 5)]) rfl rfl ⟨rfl, rfl, by rw [hl2 (⟨none, 0, []⟩ : Iw), ← hn]; rfl, trivial⟩ ⟨rfl, trivial⟩ fun w2 hw2 => hh (⟨none, 0, []⟩ : Iw) w2 hw2 fun _ _ => .inl ⟨rfl, rfl⟩)
      | cons p P =>
        have h29 := fun w' (hb : Below w.heap.size w w') => list_own (p :: P) ro rc w' (hrow.below hb) (by simp) hbl
        simp only [List.length_cons] at hbl
        repeat'
         conv => whnf
         first
          | refine zA ?_ | refine zB ?_ | refine zC ?_ | refine zD ?_ | refine zE ?_ | refine zF ?_ | refine zG ?_ | refine zH ?_ | refine zJ ?_ | refine zI ?_ | refine splT ?_ | refine splF ?_ | refine splNot ?_
          | ((first | refine splIn (fun hc => ?_) (fun hc => ?_) | refine splD (fun hc => ?_) (fun hc => ?_) | refine splE (fun hc => ?_) (fun hc => ?_) | refine splNE (fun hc => ?_) (fun hc => ?_)) <;> first | (exfalso; omega) | (exfalso; dsimp only at hc; omega) | skip)
          | refine Exists.intro (α := List Value) [.slice ro (p :: P).length rc] ⟨⟨rfl, fun w' hw' => e0 w' hw'.1⟩, ?_⟩
          | ((with_reducible show CallEv _ _ 29 _ _ _ _ _); refine callO 3 [] (.os 3 4 (P.length + 1)) (P.length + 1) 1 ((p :: P).flatMap iF) 3 rfl (fun β w' _ hbw => (h29 w' hbw.1).mono fun _ _ ⟨b, c, h1, h2, h3, h4⟩ => ⟨b, c, h1, h2, h3, h4⟩) ?_)
          | refine appG env 5 1 1 [.os 3 4 (P.length + 1)] 43 0 [] [] rfl rfl rfl rfl rfl (by decide) rfl rfl rfl (fun _ => Nat.le_refl _) (by omega) (by decide) rfl (.inl ⟨rfl, rfl, rfl, rfl⟩) rfl ?_
        all_goals first | (exfalso; omega) | skip
        exact Dis.mk5 (w0 := w) (rho [(1, 6), (2, 7)]) [3] (by exact trivial) (fun i hi => by rw [List.mem_singleton] at hi; subst hi; exact ⟨_, rfl, rfl⟩) (fun w' h => h.1) (fun β w1 hok hw1 hge hne hij => ⟨([] : List Iw) ++ [(⟨some ⟨β 3, 0, none⟩, β 4, p :: P⟩ : Iw)], ⟨⟨by have := hl2 (⟨some ⟨β 3, 0, none⟩, β 4, p :: P⟩ : Iw); omega, hnew (⟨some ⟨β 3, 0, none⟩, β 4, p :: P⟩ : Iw) rfl⟩, by have := hl2 (⟨some ⟨β 3, 0, none⟩, β 4, p :: P⟩ : Iw); omega⟩, ⟨⟨_, rfl, rfl⟩, ⟨_, rfl, rfl⟩, ⟨_, rfl, by rw [hl2 (⟨some ⟨β 3, 0, none⟩, β 4, p :: P⟩ : Iw), ← hn]; rfl⟩, trivial⟩,
          ⟨⟨rfl, _, rfl, fun _ => rfl, fun w2 y hy => hy⟩, trivial⟩, rfl, fun w2 hw2 hLo => hh (⟨some ⟨β 3, 0, none⟩, β 4, p :: P⟩ : Iw) w2 hw2 (rows_st (f := iF) (fun _ => rfl) rfl rfl (hge 3 _ rfl rfl) (hLo 3 (by simp) _ rfl))⟩)
    | cons a E =>
      simp only [List.length_cons] at hn
      cases row with
      | nil =>
        have h29 := fun w' (hb : Below w.heap.size w w') => list_none ro rc w' (hrow.below hb)
        repeat'
         conv => whnf
         first
          | refine zA ?_ | refine zB ?_ | refine zC ?_ | refine zD ?_ | refine zE ?_ | refine zF ?_ | refine zG ?_ | refine zH ?_ | refine zJ ?_ | refine zI ?_ | refine splT ?_ | refine splF ?_ | refine splNot ?_
          | ((first | refine splIn (fun hc => ?_) (fun hc => ?_) | refine splD (fun hc => ?_) (fun hc => ?_) | refine splE (fun hc => ?_) (fun hc => ?_) | refine splNE (fun hc => ?_) (fun hc => ?_)) <;> first | (exfalso; omega) | (exfalso; dsimp only at hc; omega) | skip)
          | refine Exists.intro (α := List Value) [.slice ro ([] : List Int).length rc] ⟨⟨rfl, fun w' hw' => e0 w' hw'.1⟩, ?_⟩
          | ((with_reducible show CallEv _ _ 29 _ _ _ _ _); refine callE (k := 29) (fun β w' hbw => h29 w' hbw.1) ?_)
        all_goals first | (exfalso; omega) | skip
        exact Dis.ent (x := a :: E ++ [(⟨none, 0, []⟩ : Iw)]) ⟨⟨by have := hl2 (⟨none, 0, []⟩ : Iw); omega, hnew (⟨none, 0, []⟩ : Iw) rfl⟩, by have := hl2 (⟨none, 0, []⟩ : Iw); omega⟩ (Ent.ren (rho [(1, 4), (2, 5)]) rfl rfl ⟨rfl, by simp [oSV]; rfl, by rw [hl2 (⟨none, 0, []⟩ : Iw), ← hn]; rfl, trivial⟩ ⟨by simp [oM]; rfl, trivial⟩ fun w2 hw2 => hh (⟨none, 0, []⟩ : Iw) w2 hw2 fun _ _ => .inl ⟨rfl, rfl⟩)
      | cons p P =>
        have h29 := fun w' (hb : Below w.heap.size w w') => list_own (p :: P) ro rc w' (hrow.below hb) (by simp) hbl
        simp only [List.length_cons] at hbl
        repeat'
         conv => whnf
         first
          | refine zA ?_ | refine zB ?_ | refine zC ?_ | refine zD ?_ | refine zE ?_ | refine zF ?_ | refine zG ?_ | refine zH ?_ | refine zJ ?_ | refine zI ?_ | refine splT ?_ | refine splF ?_ | refine splNot ?_
          | ((first | refine splIn (fun hc => ?_) (fun hc => ?_) | refine splD (fun hc => ?_) (fun hc => ?_) | refine splE (fun hc => ?_) (fun hc => ?_) | refine splNE (fun hc => ?_) (fun hc => ?_)) <;> first | (exfalso; omega) | (exfalso; dsimp only at hc; omega) | skip)
          | refine Exists.intro (α := List Value) [.slice ro (p :: P).length rc] ⟨⟨rfl, fun w' hw' => e0 w' hw'.1⟩, ?_⟩
          | ((with_reducible show CallEv _ _ 29 _ _ _ _ _); refine callO 3 [] (.os 3 4 (P.length + 1)) (P.length + 1) 1 ((p :: P).flatMap iF) 3 rfl (fun β w' _ hbw => (h29 w' hbw.1).mono fun _ _ ⟨b, c, h1, h2, h3, h4⟩ => ⟨b, c, h1, h2, h3, h4⟩) ?_)
          | refine appG env 5 1 1 [.os 3 4 (P.length + 1)] 43 (E.length + 1) ((a :: E).flatMap Iw.cs) [1] rfl rfl rfl rfl rfl (by decide) rfl rfl rfl (fun h => by cases h) (by omega) (by show (E.length + 1 + 1) * 24 ≤ 140737488355328; omega) rfl (.inr ⟨1, 2, rfl, rfl, rfl, (by show 1 < 6; decide)⟩) rfl ?_
        all_goals first | (exfalso; omega) | skip
        exact Dis.mk5 (w0 := w) (rho [(1, 6), (2, 7)]) [3] (by exact trivial) (fun i hi => by rw [List.mem_singleton] at hi; subst hi; exact ⟨_, rfl, rfl⟩) (fun w' h => h.1) (fun β w1 hok hw1 hge hne hij => ⟨a :: E ++ [(⟨some ⟨β 3, 0, none⟩, β 4, p :: P⟩ : Iw)], ⟨⟨by have := hl2 (⟨some ⟨β 3, 0, none⟩, β 4, p :: P⟩ : Iw); omega, hnew (⟨some ⟨β 3, 0, none⟩, β 4, p :: P⟩ : Iw) rfl⟩, by have := hl2 (⟨some ⟨β 3, 0, none⟩, β 4, p :: P⟩ : Iw); omega⟩, ⟨⟨_, rfl, rfl⟩, ⟨_, rfl, by simp [oSV]; rfl⟩, ⟨_, rfl, by rw [hl2 (⟨some ⟨β 3, 0, none⟩, β 4, p :: P⟩ : Iw), ← hn]; rfl⟩, trivial⟩,
          by simp [oM]; exact ⟨⟨rfl, _, rfl, fun _ => rfl, fun w2 y hy => by simp [Blk.ok] at hy ⊢; exact hy⟩, trivial⟩, rfl, fun w2 hw2 hLo => hh (⟨some ⟨β 3, 0, none⟩, β 4, p :: P⟩ : Iw) w2 hw2 (rows_st (f := iF) (fun _ => rfl) rfl rfl (hge 3 _ rfl rfl) (hLo 3 (by simp) _ rfl))⟩)
  · have hk2 : E.length = R.length := by omega
    rw [hk2, List.take_of_length_le (Nat.le_of_eq (List.length_map ..))] at hmap
    cases E with
    | nil =>
      repeat'
       conv => whnf
       first
        | refine zA ?_ | refine zB ?_ | refine zC ?_ | refine zD ?_ | refine zE ?_ | refine zF ?_ | refine zG ?_ | refine zH ?_ | refine zJ ?_ | refine zI ?_ | refine splT ?_ | refine splF ?_ | refine splNot ?_
        | ((first | refine splIn (fun hc => ?_) (fun hc => ?_) | refine splD (fun hc => ?_) (fun hc => ?_) | refine splE (fun hc => ?_) (fun hc => ?_) | refine splNE (fun hc => ?_) (fun hc => ?_)) <;> first | (exfalso; omega) | (exfalso; dsimp only at hc; omega) | skip)
      all_goals first | (exfalso; omega) | skip
      exact ⟨fun w' h => h.1, fun β w' hw' hblk => ⟨((none, 0), []), rfl, fun w2 k2 => ⟨⟨.inl ⟨rfl, rfl⟩, fun r hr => by cases hr⟩, hmap⟩⟩⟩
    | cons a E =>
      repeat'
       conv => whnf
       first
        | refine zA ?_ | refine zB ?_ | refine zC ?_ | refine zD ?_ | refine zE ?_ | refine zF ?_ | refine zG ?_ | refine zH ?_ | refine zJ ?_ | refine zI ?_ | refine splT ?_ | refine splF ?_ | refine splNot ?_
        | ((first | refine splIn (fun hc => ?_) (fun hc => ?_) | refine splD (fun hc => ?_) (fun hc => ?_) | refine splE (fun hc => ?_) (fun hc => ?_) | refine splNE (fun hc => ?_) (fun hc => ?_)) <;> first | (exfalso; omega) | (exfalso; dsimp only at hc; omega) | skip)
      all_goals first | (exfalso; omega) | skip
      exact ⟨fun w' h => h.1, fun β w' hw' hblk => ⟨((some ⟨β 1, 0, none⟩, β 2), a :: E), rfl, fun w2 k2 => ⟨⟨Rd.of_owns (sz := 1) (f := Iw.cs) (fun _ => rfl) rfl rfl (hblk 1 _ rfl rfl w2 k2), fun r hr => hw'.2 r hr w2 k2⟩, hmap⟩⟩⟩
end Go.Proofs.Ythfabodamhdhaaa
