/- A tent said in the program's types, in new memory: what Tent returns. By tPF.py. -/
import Derived.Test.YtfbokllafdnglaaPE
import Derived.Test.YtfbokllafdnglaaSM
namespace Go.Proofs.Ytfbokllafdnglaa
open Go Tx Go.RowKit
set_option linter.unusedSimpArgs false
set_option linter.unusedVariables false

/-- A head without where its guys lie. -/
def Hd.d (h : Hd) : Int × Int × List Gy := (h.ar, h.be, h.G)
set_option maxHeartbeats 8000000 in
set_option maxRecDepth 100000 in
theorem Tent_ok (T : List Hd) (o : Option Addr) (c : Nat) (w : World) (h : TtIn o c T w) (hq : ttOk T = true) :
    Calls Try.prog 10 #[.slice o T.length c] w fun e w' => ∃ y : { y : (Option Addr × Nat) × List Hd // y.2.map Hd.d = T.map Hd.d }, e = .returned (sV T.length y.1.1) ∧ Below w.heap.size w w' ∧ St w.heap.size (TtIn y.1.1.1 y.1.1.2 y.1.2) w' := by
  refine calls_fam env mixed Try.func10 has10 Try.ntmps10 [.slice o T.length c] (by simp) ?_
  have hhd := ttOk_hd hq
  have hT12 := (ttOk_iff.1 hq).2.2
  have hT1 := (ttOk_iff.1 hq).2.1
  obtain ⟨hT, hg, htl, hgl⟩ := h
  clear htl hgl
  repeat'
   conv => whnf
   first
    | refine zA ?_ | refine zB ?_ | refine zC ?_ | refine zD ?_ | refine zE ?_ | refine zF ?_ | refine zG ?_ | refine zH ?_ | refine zJ ?_ | refine zI ?_ | refine splT ?_ | refine splF ?_ | refine splNot ?_
    | ((first | refine splIn (fun hc => ?_) (fun hc => ?_) | refine splD (fun hc => ?_) (fun hc => ?_) | refine splE (fun hc => ?_) (fun hc => ?_) | refine splNE (fun hc => ?_) (fun hc => ?_)) <;> first | (exfalso; omega) | (exfalso; dsimp only at hc; omega) | skip)
  all_goals first | (exfalso; omega) | skip
  refine loopD 2 (fun D : List Hd => [(0, .v (.slice o T.length c)), (3, oSV 0 1 D), (4, .v (iv D.length))]) (fun D => oM 0 1 3 Hd.cs 113 D) (fun (D : List Hd) w' => Below w.heap.size w w' ∧ ∀ t ∈ D, St w.heap.size (Rd 5 Gy.cs (.slice t.go t.G.length t.gc) t.G) w') (fun D => D.length ≤ T.length ∧ D.map Hd.d = (T.map Hd.d).take D.length) (fun D => T.length - D.length)
    (Dis.ent (x := []) ⟨Nat.zero_le _, rfl⟩ (Ent.weak rfl ⟨rfl, rfl, rfl, trivial⟩ trivial (fun w' h => ⟨h, fun p hp => by cases hp⟩))) (fun D _ => by cases D <;> exact ⟨rfl, rfl⟩) ?_
  intro D ⟨hk, hmap⟩
  rcases Nat.lt_or_ge D.length T.length with hkl | hkl
  · obtain ⟨⟨ar, be, go, gc, G⟩, hx⟩ : ∃ b, T[D.length]? = some b := ⟨_, List.getElem?_eq_getElem hkl⟩
    obtain ⟨_, ad, rfl, _⟩ := hT.ptr (by omega)
    have e0 := fun (w' : World) hw' => rd_fldz (hT.below (w' := w') hw') hx _ rfl 0 (iv ar) rfl
    have e1 := fun (w' : World) hw' => rd_fldz (hT.below (w' := w') hw') hx _ rfl 1 (iv be) rfl
    have e2 := fun (w' : World) hw' => rd_fldz (hT.below (w' := w') hw') hx _ rfl 2 (.slice go G.length gc) rfl
    have hG := hg _ (List.mem_of_getElem? hx)
    obtain ⟨-, -, hG8, -⟩ := hhd _ (List.mem_of_getElem? hx)
    dsimp only at hG hG8
    have hm : (T.map Hd.d)[D.length]? = some (ar, be, G) := by rw [List.getElem?_map, hx]; rfl
    have hnew : ∀ t : Hd, t.d = (ar, be, G) → (D ++ [t]).map Hd.d = (T.map Hd.d).take (D ++ [t]).length := fun t ht => by
      rw [List.map_append, hmap, List.length_append, List.length_singleton, List.take_add_one, hm]
      show _ ++ [t.d] = _
      rw [ht]; rfl
    have hl2 : ∀ t : Hd, (D ++ [t]).length = D.length + 1 := fun t => by simp
    have hh : ∀ (t : Hd) w', (Below w.heap.size w w' ∧ ∀ t ∈ D, St w.heap.size (Rd 5 Gy.cs (.slice t.go t.G.length t.gc) t.G) w') → St w.heap.size (Rd 5 Gy.cs (.slice t.go t.G.length t.gc) t.G) w' → Below w.heap.size w w' ∧ ∀ r ∈ D ++ [t], St w.heap.size (Rd 5 Gy.cs (.slice r.go r.G.length r.gc) r.G) w' := fun t w' hw' ht => ⟨hw'.1, fun r hr => by
      rcases List.mem_append.1 hr with hr | hr
      · exact hw'.2 r hr
      · rw [List.mem_singleton] at hr; subst hr; exact ht⟩
    generalize hn : D.length = n at *
    cases D with
    | nil =>
      repeat'
       conv => whnf
       first
        | refine zA ?_ | refine zB ?_ | refine zC ?_ | refine zD ?_ | refine zE ?_ | refine zF ?_ | refine zG ?_ | refine zH ?_ | refine zJ ?_ | refine zI ?_ | refine splT ?_ | refine splF ?_ | refine splNot ?_
        | ((first | refine splIn (fun hc => ?_) (fun hc => ?_) | refine splD (fun hc => ?_) (fun hc => ?_) | refine splE (fun hc => ?_) (fun hc => ?_) | refine splNE (fun hc => ?_) (fun hc => ?_)) <;> first | (exfalso; omega) | (exfalso; dsimp only at hc; omega) | skip)
        | refine Exists.intro (α := List Value) [iv ar] ⟨⟨rfl, fun w' hw' => e0 w' hw'.1⟩, ?_⟩
        | refine Exists.intro (α := List Value) [iv be] ⟨⟨rfl, fun w' hw' => e1 w' hw'.1⟩, ?_⟩
        | refine Exists.intro (α := List Value) [.slice go G.length gc] ⟨⟨rfl, fun w' hw' => e2 w' hw'.1⟩, ?_⟩
      all_goals first | (exfalso; omega) | skip
      refine loopN 5 (fun j : Nat => [(0, .v (.slice (some ad) T.length c)), (3, oSV 0 1 ([] : List Hd)), (4, .v (iv n)), (5, .ptr 2 0), (6, .v (iv j))]) (fun j => (2, .cells [.v (iv ar), .v (iv be), oSV 3 4 (G.take j)] 113) :: (oM 3 4 5 Gy.cs 114 (G.take j) ++ oM 0 1 3 Hd.cs 113 ([] : List Hd))) (fun j => j ≤ G.length) (fun j => G.length - j) 0 (Nat.zero_le _) ⟨rfl, rfl, rfl, rfl, rfl, trivial⟩ ⟨rfl, trivial⟩ (fun j _ => by cases G.take j <;> exact ⟨rfl, rfl⟩) ?_
      intro j hj
      rcases Nat.lt_or_ge j G.length with hjl | hjl
      · obtain ⟨⟨x, y, dn, so, dp⟩, hy⟩ : ∃ b, G[j]? = some b := ⟨_, List.getElem?_eq_getElem hjl⟩
        obtain ⟨_, ag, rfl, _⟩ := hG.ptr (by omega)
        have f0 := fun (w' : World) hw' => rd_ati (hG.below (w' := w') hw') hy
        have ht : G.take (j + 1) = G.take j ++ [⟨x, y, dn, so, dp⟩] := by rw [List.take_add_one, hy]; rfl
        have hlen : (G.take j).length = j := by rw [List.length_take]; omega
        generalize G.take j = E at *
        cases E with
        | nil =>
          repeat'
           conv => whnf
           first
            | refine zA ?_ | refine zB ?_ | refine zC ?_ | refine zD ?_ | refine zE ?_ | refine zF ?_ | refine zG ?_ | refine zH ?_ | refine zJ ?_ | refine zI ?_ | refine splT ?_ | refine splF ?_ | refine splNot ?_
            | ((first | refine splIn (fun hc => ?_) (fun hc => ?_) | refine splD (fun hc => ?_) (fun hc => ?_) | refine splE (fun hc => ?_) (fun hc => ?_) | refine splNE (fun hc => ?_) (fun hc => ?_)) <;> first | (exfalso; omega) | (exfalso; dsimp only at hc; omega) | skip)
            | refine Exists.intro (α := List Value) [.slice (some ag) G.length gc] ⟨⟨rfl, fun w' hw' => e2 w' hw'.1⟩, ?_⟩
            | refine Exists.intro (α := List Value) [iv x, iv y, iv dn, iv so, iv dp] ⟨⟨rfl, fun w' hw' => f0 w' hw'.1⟩, ?_⟩
          all_goals first | (exfalso; omega) | exact ⟨j + 1, by omega, by omega, Ent.ren (rho [(3, 7), (4, 8)]) rfl (by rw [ht]; rfl) ⟨rfl, rfl, rfl, rfl, rfl, trivial⟩ (by rw [ht]; exact ⟨rfl, rfl, trivial⟩) fun _ h => h⟩
        | cons b E =>
          simp only [List.length_cons] at hlen
          repeat'
           conv => whnf
           first
            | refine zA ?_ | refine zB ?_ | refine zC ?_ | refine zD ?_ | refine zE ?_ | refine zF ?_ | refine zG ?_ | refine zH ?_ | refine zJ ?_ | refine zI ?_ | refine splT ?_ | refine splF ?_ | refine splNot ?_
            | ((first | refine splIn (fun hc => ?_) (fun hc => ?_) | refine splD (fun hc => ?_) (fun hc => ?_) | refine splE (fun hc => ?_) (fun hc => ?_) | refine splNE (fun hc => ?_) (fun hc => ?_)) <;> first | (exfalso; omega) | (exfalso; dsimp only at hc; omega) | skip)
            | refine Exists.intro (α := List Value) [.slice (some ag) G.length gc] ⟨⟨rfl, fun w' hw' => e2 w' hw'.1⟩, ?_⟩
            | refine Exists.intro (α := List Value) [iv x, iv y, iv dn, iv so, iv dp] ⟨⟨rfl, fun w' hw' => f0 w' hw'.1⟩, ?_⟩
          all_goals first | (exfalso; omega) | exact ⟨j + 1, by omega, by omega, Ent.ren (rho [(3, 7), (4, 8)]) rfl (by rw [ht]; rfl) ⟨rfl, rfl, rfl, rfl, rfl, trivial⟩ (by rw [ht]; exact ⟨by simp [oSV]; rfl, by simp [oM]; rfl, trivial⟩) fun _ h => h⟩
      · obtain rfl : j = G.length := by omega
        rw [List.take_length]
        cases G with
        | nil =>
          repeat'
           conv => whnf
           first
            | refine zA ?_ | refine zB ?_ | refine zC ?_ | refine zD ?_ | refine zE ?_ | refine zF ?_ | refine zG ?_ | refine zH ?_ | refine zJ ?_ | refine zI ?_ | refine splT ?_ | refine splF ?_ | refine splNot ?_
            | ((first | refine splIn (fun hc => ?_) (fun hc => ?_) | refine splD (fun hc => ?_) (fun hc => ?_) | refine splE (fun hc => ?_) (fun hc => ?_) | refine splNE (fun hc => ?_) (fun hc => ?_)) <;> first | (exfalso; omega) | (exfalso; dsimp only at hc; omega) | skip)
            | refine Exists.intro (α := List Value) [.slice go ([] : List Gy).length gc] ⟨⟨rfl, fun w' hw' => e2 w' hw'.1⟩, ?_⟩
          all_goals first | (exfalso; omega) | skip
          exact Dis.mk5 (w0 := w) (rho [(0, 6), (1, 7)]) [] (by exact trivial) (fun i hi => by cases hi) (fun w' h => h.1) (fun β w1 hok hw1 hge hne hij => ⟨[] ++ [(⟨ar, be, none, 0, []⟩ : Hd)], ⟨⟨by (show 1 ≤ T.length); omega, hnew (⟨ar, be, none, 0, []⟩ : Hd) rfl⟩, by (have hn0 : n = 0 := hn.symm); (show T.length - 1 < T.length - n); omega⟩, ⟨⟨_, rfl, rfl⟩, ⟨_, rfl, rfl⟩, ⟨_, rfl, by rw [← hn]; rfl⟩, trivial⟩,
            ⟨⟨rfl, _, rfl, fun _ => rfl, fun w2 y hy => hy⟩, trivial⟩, rfl, fun w2 hw2 hLo => hh (⟨ar, be, none, 0, []⟩ : Hd) w2 hw2 ((fun w3 k3 => .inl ⟨rfl, rfl⟩))⟩)
        | cons g0 G =>
          repeat'
           conv => whnf
           first
            | refine zA ?_ | refine zB ?_ | refine zC ?_ | refine zD ?_ | refine zE ?_ | refine zF ?_ | refine zG ?_ | refine zH ?_ | refine zJ ?_ | refine zI ?_ | refine splT ?_ | refine splF ?_ | refine splNot ?_
            | ((first | refine splIn (fun hc => ?_) (fun hc => ?_) | refine splD (fun hc => ?_) (fun hc => ?_) | refine splE (fun hc => ?_) (fun hc => ?_) | refine splNE (fun hc => ?_) (fun hc => ?_)) <;> first | (exfalso; omega) | (exfalso; dsimp only at hc; omega) | skip)
            | refine Exists.intro (α := List Value) [.slice go (g0 :: G).length gc] ⟨⟨rfl, fun w' hw' => e2 w' hw'.1⟩, ?_⟩
            | refine appG env 5 1 1 [.v (iv ar), .v (iv be), .os 3 4 (G.length + 1)] 113 0 [] [] rfl rfl rfl rfl rfl (by decide) rfl rfl rfl (fun _ => Nat.le_refl _) (by omega) (by decide) rfl (.inl ⟨rfl, rfl, rfl, rfl⟩) rfl ?_
          all_goals first | (exfalso; omega) | skip
          exact Dis.mk5 (w0 := w) (rho [(0, 6), (1, 7)]) [3] (by exact trivial) (fun i hi => by rw [List.mem_singleton] at hi; subst hi; exact ⟨_, rfl, rfl⟩) (fun w' h => h.1) (fun β w1 hok hw1 hge hne hij => ⟨[] ++ [(⟨ar, be, some ⟨β 3, 0, none⟩, β 4, g0 :: G⟩ : Hd)], ⟨⟨by (show 1 ≤ T.length); omega, hnew (⟨ar, be, some ⟨β 3, 0, none⟩, β 4, g0 :: G⟩ : Hd) rfl⟩, by (have hn0 : n = 0 := hn.symm); (show T.length - 1 < T.length - n); omega⟩, ⟨⟨_, rfl, rfl⟩, ⟨_, rfl, rfl⟩, ⟨_, rfl, by rw [← hn]; rfl⟩, trivial⟩,
            ⟨⟨rfl, _, rfl, fun _ => rfl, fun w2 y hy => hy⟩, trivial⟩, rfl, fun w2 hw2 hLo => hh (⟨ar, be, some ⟨β 3, 0, none⟩, β 4, g0 :: G⟩ : Hd) w2 hw2 (rows_st (f := Gy.cs) (fun _ => rfl) rfl rfl (hge 3 _ rfl rfl) (hLo 3 (by simp) _ rfl))⟩)
    | cons a D =>
      simp only [List.length_cons] at hn
      have hl3 : ∀ t : Hd, (a :: D ++ [t]).length = D.length + 1 + 1 := fun t => by rw [hl2]; omega
      have hoS : ∀ t : Hd, oSV 0 1 (a :: D ++ [t]) = .os 0 1 (D.length + 1 + 1) := fun t => by simp [oSV]
      repeat'
       conv => whnf
       first
        | refine zA ?_ | refine zB ?_ | refine zC ?_ | refine zD ?_ | refine zE ?_ | refine zF ?_ | refine zG ?_ | refine zH ?_ | refine zJ ?_ | refine zI ?_ | refine splT ?_ | refine splF ?_ | refine splNot ?_
        | ((first | refine splIn (fun hc => ?_) (fun hc => ?_) | refine splD (fun hc => ?_) (fun hc => ?_) | refine splE (fun hc => ?_) (fun hc => ?_) | refine splNE (fun hc => ?_) (fun hc => ?_)) <;> first | (exfalso; omega) | (exfalso; dsimp only at hc; omega) | skip)
        | refine Exists.intro (α := List Value) [iv ar] ⟨⟨rfl, fun w' hw' => e0 w' hw'.1⟩, ?_⟩
        | refine Exists.intro (α := List Value) [iv be] ⟨⟨rfl, fun w' hw' => e1 w' hw'.1⟩, ?_⟩
        | refine Exists.intro (α := List Value) [.slice go G.length gc] ⟨⟨rfl, fun w' hw' => e2 w' hw'.1⟩, ?_⟩
      all_goals first | (exfalso; omega) | skip
      refine loopN 5 (fun j : Nat => [(0, .v (.slice (some ad) T.length c)), (3, oSV 0 1 (a :: D)), (4, .v (iv n)), (5, .ptr 2 0), (6, .v (iv j))]) (fun j => (2, .cells [.v (iv ar), .v (iv be), oSV 3 4 (G.take j)] 113) :: (oM 3 4 5 Gy.cs 114 (G.take j) ++ oM 0 1 3 Hd.cs 113 (a :: D))) (fun j => j ≤ G.length) (fun j => G.length - j) 0 (Nat.zero_le _) ⟨rfl, rfl, rfl, rfl, rfl, trivial⟩ ⟨rfl, rfl, trivial⟩ (fun j _ => by cases G.take j <;> exact ⟨rfl, rfl⟩) ?_
      intro j hj
      rcases Nat.lt_or_ge j G.length with hjl | hjl
      · obtain ⟨⟨x, y, dn, so, dp⟩, hy⟩ : ∃ b, G[j]? = some b := ⟨_, List.getElem?_eq_getElem hjl⟩
        obtain ⟨_, ag, rfl, _⟩ := hG.ptr (by omega)
        have f0 := fun (w' : World) hw' => rd_ati (hG.below (w' := w') hw') hy
        have ht : G.take (j + 1) = G.take j ++ [⟨x, y, dn, so, dp⟩] := by rw [List.take_add_one, hy]; rfl
        have hlen : (G.take j).length = j := by rw [List.length_take]; omega
        generalize G.take j = E at *
        cases E with
        | nil =>
          repeat'
           conv => whnf
           first
            | refine zA ?_ | refine zB ?_ | refine zC ?_ | refine zD ?_ | refine zE ?_ | refine zF ?_ | refine zG ?_ | refine zH ?_ | refine zJ ?_ | refine zI ?_ | refine splT ?_ | refine splF ?_ | refine splNot ?_
            | ((first | refine splIn (fun hc => ?_) (fun hc => ?_) | refine splD (fun hc => ?_) (fun hc => ?_) | refine splE (fun hc => ?_) (fun hc => ?_) | refine splNE (fun hc => ?_) (fun hc => ?_)) <;> first | (exfalso; omega) | (exfalso; dsimp only at hc; omega) | skip)
            | refine Exists.intro (α := List Value) [.slice (some ag) G.length gc] ⟨⟨rfl, fun w' hw' => e2 w' hw'.1⟩, ?_⟩
            | refine Exists.intro (α := List Value) [iv x, iv y, iv dn, iv so, iv dp] ⟨⟨rfl, fun w' hw' => f0 w' hw'.1⟩, ?_⟩
          all_goals first | (exfalso; omega) | exact ⟨j + 1, by omega, by omega, Ent.ren (rho [(3, 7), (4, 8)]) rfl (by rw [ht]; rfl) ⟨rfl, rfl, rfl, rfl, rfl, trivial⟩ (by rw [ht]; exact ⟨rfl, rfl, rfl, trivial⟩) fun _ h => h⟩
        | cons b E =>
          simp only [List.length_cons] at hlen
          repeat'
           conv => whnf
           first
            | refine zA ?_ | refine zB ?_ | refine zC ?_ | refine zD ?_ | refine zE ?_ | refine zF ?_ | refine zG ?_ | refine zH ?_ | refine zJ ?_ | refine zI ?_ | refine splT ?_ | refine splF ?_ | refine splNot ?_
            | ((first | refine splIn (fun hc => ?_) (fun hc => ?_) | refine splD (fun hc => ?_) (fun hc => ?_) | refine splE (fun hc => ?_) (fun hc => ?_) | refine splNE (fun hc => ?_) (fun hc => ?_)) <;> first | (exfalso; omega) | (exfalso; dsimp only at hc; omega) | skip)
            | refine Exists.intro (α := List Value) [.slice (some ag) G.length gc] ⟨⟨rfl, fun w' hw' => e2 w' hw'.1⟩, ?_⟩
            | refine Exists.intro (α := List Value) [iv x, iv y, iv dn, iv so, iv dp] ⟨⟨rfl, fun w' hw' => f0 w' hw'.1⟩, ?_⟩
          all_goals first | (exfalso; omega) | exact ⟨j + 1, by omega, by omega, Ent.ren (rho [(3, 7), (4, 8)]) rfl (by rw [ht]; rfl) ⟨rfl, rfl, rfl, rfl, rfl, trivial⟩ (by rw [ht]; exact ⟨by simp [oSV]; rfl, by simp [oM]; rfl, rfl, trivial⟩) fun _ h => h⟩
      · obtain rfl : j = G.length := by omega
        rw [List.take_length]
        cases G with
        | nil =>
          repeat'
           conv => whnf
           first
            | refine zA ?_ | refine zB ?_ | refine zC ?_ | refine zD ?_ | refine zE ?_ | refine zF ?_ | refine zG ?_ | refine zH ?_ | refine zJ ?_ | refine zI ?_ | refine splT ?_ | refine splF ?_ | refine splNot ?_
            | ((first | refine splIn (fun hc => ?_) (fun hc => ?_) | refine splD (fun hc => ?_) (fun hc => ?_) | refine splE (fun hc => ?_) (fun hc => ?_) | refine splNE (fun hc => ?_) (fun hc => ?_)) <;> first | (exfalso; omega) | (exfalso; dsimp only at hc; omega) | skip)
            | refine Exists.intro (α := List Value) [.slice go ([] : List Gy).length gc] ⟨⟨rfl, fun w' hw' => e2 w' hw'.1⟩, ?_⟩
          all_goals first | (exfalso; omega) | skip
          exact Dis.mk5 (w0 := w) (rho [(0, 6), (1, 7)]) [] (by exact trivial) (fun i hi => by cases hi) (fun w' h => h.1) (fun β w1 hok hw1 hge hne hij => ⟨a :: D ++ [(⟨ar, be, none, 0, []⟩ : Hd)], ⟨⟨by have := hl3 (⟨ar, be, none, 0, []⟩ : Hd); omega, hnew (⟨ar, be, none, 0, []⟩ : Hd) rfl⟩, by have := hl3 (⟨ar, be, none, 0, []⟩ : Hd); omega⟩, ⟨⟨_, rfl, rfl⟩, ⟨_, rfl, by rw [hoS (⟨ar, be, none, 0, []⟩ : Hd)]; rfl⟩, ⟨_, rfl, by rw [hl3 (⟨ar, be, none, 0, []⟩ : Hd), ← hn]; rfl⟩, trivial⟩,
            by simp [oM]; exact ⟨⟨rfl, _, rfl, fun _ => rfl, fun w2 y hy => by simp [Blk.ok] at hy ⊢; exact hy⟩, trivial⟩, rfl, fun w2 hw2 hLo => hh (⟨ar, be, none, 0, []⟩ : Hd) w2 hw2 ((fun w3 k3 => .inl ⟨rfl, rfl⟩))⟩)
        | cons g0 G =>
          repeat'
           conv => whnf
           first
            | refine zA ?_ | refine zB ?_ | refine zC ?_ | refine zD ?_ | refine zE ?_ | refine zF ?_ | refine zG ?_ | refine zH ?_ | refine zJ ?_ | refine zI ?_ | refine splT ?_ | refine splF ?_ | refine splNot ?_
            | ((first | refine splIn (fun hc => ?_) (fun hc => ?_) | refine splD (fun hc => ?_) (fun hc => ?_) | refine splE (fun hc => ?_) (fun hc => ?_) | refine splNE (fun hc => ?_) (fun hc => ?_)) <;> first | (exfalso; omega) | (exfalso; dsimp only at hc; omega) | skip)
            | refine Exists.intro (α := List Value) [.slice go (g0 :: G).length gc] ⟨⟨rfl, fun w' hw' => e2 w' hw'.1⟩, ?_⟩
            | refine appG env 5 1 1 [.v (iv ar), .v (iv be), .os 3 4 (G.length + 1)] 113 (D.length + 1) ((a :: D).flatMap Hd.cs) [0] rfl rfl rfl rfl rfl (by decide) rfl rfl rfl (fun h => by cases h) (by omega) (by show (D.length + 1 + 1) * 40 ≤ 140737488355328; omega) rfl (.inr ⟨0, 1, rfl, rfl, rfl, (by show 0 < 6; decide)⟩) rfl ?_
          all_goals first | (exfalso; omega) | skip
          exact Dis.mk5 (w0 := w) (rho [(0, 6), (1, 7)]) [3] (by exact trivial) (fun i hi => by rw [List.mem_singleton] at hi; subst hi; exact ⟨_, rfl, rfl⟩) (fun w' h => h.1) (fun β w1 hok hw1 hge hne hij => ⟨a :: D ++ [(⟨ar, be, some ⟨β 3, 0, none⟩, β 4, g0 :: G⟩ : Hd)], ⟨⟨by have := hl3 (⟨ar, be, some ⟨β 3, 0, none⟩, β 4, g0 :: G⟩ : Hd); omega, hnew (⟨ar, be, some ⟨β 3, 0, none⟩, β 4, g0 :: G⟩ : Hd) rfl⟩, by have := hl3 (⟨ar, be, some ⟨β 3, 0, none⟩, β 4, g0 :: G⟩ : Hd); omega⟩, ⟨⟨_, rfl, rfl⟩, ⟨_, rfl, by rw [hoS (⟨ar, be, some ⟨β 3, 0, none⟩, β 4, g0 :: G⟩ : Hd)]; rfl⟩, ⟨_, rfl, by rw [hl3 (⟨ar, be, some ⟨β 3, 0, none⟩, β 4, g0 :: G⟩ : Hd), ← hn]; rfl⟩, trivial⟩,
            by simp [oM]; exact ⟨⟨rfl, _, rfl, fun _ => rfl, fun w2 y hy => by simp [Blk.ok] at hy ⊢; exact hy⟩, trivial⟩, rfl, fun w2 hw2 hLo => hh (⟨ar, be, some ⟨β 3, 0, none⟩, β 4, g0 :: G⟩ : Hd) w2 hw2 (rows_st (f := Gy.cs) (fun _ => rfl) rfl rfl (hge 3 _ rfl rfl) (hLo 3 (by simp) _ rfl))⟩)
  · have hk2 : D.length = T.length := by omega
    rw [hk2, List.take_of_length_le (Nat.le_of_eq (List.length_map ..))] at hmap
    have hGd : ∀ t ∈ D, t.G.length ≤ 9223372036854775807 := fun t ht => by
      have h1 : t.d ∈ T.map Hd.d := by rw [← hmap]; exact List.mem_map.2 ⟨t, ht, rfl⟩
      obtain ⟨u, h2, h3⟩ := List.mem_map.1 h1
      have h4 : u.G = t.G := congrArg (fun x => x.2.2) h3
      have := (hhd u h2).2.2.1
      rw [← h4]; omega
    cases D with
    | nil => exfalso; simp at hk2; omega
    | cons a D =>
      simp only [List.length_cons] at hk2
      repeat'
       conv => whnf
       first
        | refine zA ?_ | refine zB ?_ | refine zC ?_ | refine zD ?_ | refine zE ?_ | refine zF ?_ | refine zG ?_ | refine zH ?_ | refine zJ ?_ | refine zI ?_ | refine splT ?_ | refine splF ?_ | refine splNot ?_
        | ((first | refine splIn (fun hc => ?_) (fun hc => ?_) | refine splD (fun hc => ?_) (fun hc => ?_) | refine splE (fun hc => ?_) (fun hc => ?_) | refine splNE (fun hc => ?_) (fun hc => ?_)) <;> first | (exfalso; omega) | (exfalso; dsimp only at hc; omega) | skip)
      all_goals first | (exfalso; omega) | skip
      exact ⟨fun w' h => h.1, fun β w' hB hblk => ⟨⟨((some ⟨β 0, 0, none⟩, β 1), a :: D), hmap⟩, by (show Value.slice _ (D.length + 1) _ = Value.slice _ T.length _); rw [hk2], fun w2 k2 => ⟨Rd.of_owns (sz := 3) (f := Hd.cs) (fun _ => rfl) rfl rfl (hblk 0 _ rfl rfl w2 k2), fun t ht => hB.2 t ht w2 k2, by (show D.length + 1 ≤ _); omega, hGd⟩⟩⟩
end Go.Proofs.Ytfbokllafdnglaa
