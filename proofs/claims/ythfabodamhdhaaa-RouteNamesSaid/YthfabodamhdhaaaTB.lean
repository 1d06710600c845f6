/- The chapter's tour, in new memory: what Three returns. -/
import Derived.Test.YthfabodamhdhaaaTA
namespace Go.Proofs.Ythfabodamhdhaaa
open Go Tx Go.RowKit
set_option linter.unusedSimpArgs false
set_option linter.unusedVariables false
def thL : List (List (Int × Int)) := [[(0, 0), (9, 30), (9, 30), (9, 30)], [(9, 30), (0, 0), (9, 30), (9, 30)], [(9, 30), (9, 30), (0, 0), (9, 30)], [(9, 30), (9, 30), (9, 30), (0, 0)]]
def thT : List Tw := [⟨[], 0, 0, 0, 0, 0, [], 0, 0⟩, ⟨[(0, 4)], 1, 3, 100, 60, 10, [], 0, 0⟩, ⟨[(2, 9)], 2, 2, 150, 50, 20, [(3, 3)], 1, 400⟩, ⟨[(0, 9)], 1, 10, 900, 40, 0, [], 0, 0⟩]
def thD : To := ⟨10, 8, 50, thT, thL⟩
theorem cells_st {α : Type} {sz : Nat} {f : α → List Value} (hf : ∀ x, (f x).length = sz) {bs : List α} {w : World} {m b : Nat} {ty : TypeId} {c n : Nat} (hn : n = bs.length) (hb : m ≤ b) (h : w.heap[b]? = some (.cells (bs.flatMap f).toArray ty (0, 0))) :
 St m (Rd sz f (.slice (some ⟨b, 0, none⟩) n c) bs) w := fun w2 k => Rd.of_cells hf hn (by rw [k.same b hb (Array.getElem?_eq_some_iff.1 h).1]; exact h)
set_option maxHeartbeats 4000000 in
set_option maxRecDepth 100000 in
theorem Three_ok (w : World) : Calls Try.prog 49 #[] w fun e w' => ∃ y : Tr, e = .returned y.v ∧ Below w.heap.size w w' ∧ St w.heap.size (fun w2 => TrIn y w2 ∧ y.d = thD) w' := by
 refine calls_famV env mixed Try.func49 has49 Try.ntmps49 [] (by simp) ?_
 refine VC.of env mixed ?_
 repeat'
  conv => whnf
  first
   | refine zA ?_ | refine zB ?_ | refine zC ?_ | refine zD ?_ | refine zE ?_ | refine zF ?_ | refine zG ?_ | refine zH ?_ | refine zJ ?_ | refine zI ?_ | refine splT ?_ | refine splF ?_ | refine splNot ?_
   | ((first | refine splIn ?_ ?_ | refine splD ?_ ?_ | refine splE ?_ ?_ | refine splNE ?_ ?_) <;> intro hc <;> first | (exfalso; omega) | (exfalso; dsimp only at hc; omega) | skip)
 refine loopD 9 (fun D : List Lr => [(0, .ptr 0 0), (1, .ptr 6 0), (2, .v (iv D.length))]) (fun D => (0, .cells [.v (iv 0), .v (iv 0), .v (iv 0), .v (.slice none 0 0), .v (.slice none 0 0)] 35) :: (1, .cells [.v (iv 0), .v (iv 4)] 55) :: (2, .cells [.v (iv 2), .v (iv 9)] 55) :: (3, .cells [.v (iv 3), .v (iv 3)] 55) :: (4, .cells [.v (iv 0), .v (iv 9)] 55) :: (5, .cells [.v (.slice none 0 0), .v (iv 0), .v (iv 0), .v (iv 0), .v (iv 0), .v (iv 0), .v (.slice none 0 0), .v (iv 0), .v (iv 0), .sl 1 0 1 1, .v (iv 1), .v (iv 3), .v (iv 100), .v (iv 60), .v (iv 10), .v (.slice none 0 0), .v (iv 0), .v (iv 0), .sl 2 0 1 1, .v (iv 2), .v (iv 2), .v (iv 150), .v (iv 50), .v (iv 20), .sl 3 0 1 1, .v (iv 1), .v (iv 400), .sl 4 0 1 1, .v (iv 1), .v (iv 10), .v (iv 900), .v (iv 40), .v (iv 0), .v (.slice none 0 0), .v (iv 0), .v (iv 0)] 57) :: (6, .cells [.v (iv 10), .v (iv 8), .v (iv 50), .sl 5 0 4 4, oSV 7 8 D] 35) :: oM 7 8 1 Lr.cs 61 D) (fun (D : List Lr) w' => Below w.heap.size w w' ∧ ∀ r ∈ D, St w.heap.size (Rd 2 prF (.slice r.o r.L.length r.c) r.L) w') (fun D => D.length ≤ 4 ∧ D.map Lr.L = thL.take D.length) (fun D => 4 - D.length)
  (Dis.ent (x := []) ⟨Nat.zero_le _, rfl⟩ (Ent.weak rfl ⟨rfl, rfl, rfl, trivial⟩ ⟨rfl, rfl, rfl, rfl, rfl, rfl, rfl, trivial⟩ (fun w' h => ⟨h, fun p hp => by cases hp⟩))) (fun D _ => by cases D <;> exact ⟨rfl, rfl⟩) ?_
 intro D ⟨hk, hmap⟩
 rcases D with _ | ⟨a, _ | ⟨b, _ | ⟨c, _ | ⟨d, D⟩⟩⟩⟩
 · rw [show ((([] : List Lr).length : Nat) : Int) = 0 from rfl]
   have hm : ∀ x : Lr, x.L = [(0, 0), (9, 30), (9, 30), (9, 30)] → ([] ++ [x]).map Lr.L = thL.take 1 := fun x hx => by
    rw [List.map_append, hmap]
    show thL.take 0 ++ [x.L] = _
    rw [hx]; rfl
   repeat'
    conv => whnf
    first
     | refine zA ?_ | refine zB ?_ | refine zC ?_ | refine zD ?_ | refine zE ?_ | refine zF ?_ | refine zG ?_ | refine zH ?_ | refine zJ ?_ | refine zI ?_ | refine splT ?_ | refine splF ?_ | refine splNot ?_
     | ((first | refine splIn ?_ ?_ | refine splD ?_ ?_ | refine splE ?_ ?_ | refine splNE ?_ ?_) <;> intro hc <;> first | (exfalso; omega) | (exfalso; dsimp only at hc; omega) | skip)
     | refine appG env 10 1 1 [.sl 9 0 4 4] 61 0 [] [] rfl rfl rfl rfl rfl (by decide) rfl rfl rfl (fun _ => Nat.le_refl _) (by omega) (by decide) rfl (.inl ⟨rfl, rfl, rfl, rfl⟩) rfl ?_
   all_goals first | (exfalso; omega) | skip
   refine Dis.mk5 (w0 := w) (rho [(7, 11), (8, 12)]) [9] (by exact trivial) (fun i hi => by rw [List.mem_singleton] at hi; subst hi; exact ⟨_, rfl, rfl⟩) (fun w' h => h.1) (fun β w1 hok hw1 hge hne hij => ⟨[⟨some ⟨β 9, 0, none⟩, 4, [(0, 0), (9, 30), (9, 30), (9, 30)]⟩], ⟨⟨by simp, hm _ rfl⟩, by (show 4 - 1 < 4 - 0); omega⟩, ⟨⟨_, rfl, rfl⟩, ⟨_, rfl, rfl⟩, ⟨_, rfl, rfl⟩, trivial⟩,
    ⟨⟨rfl, _, rfl, fun _ => rfl, fun w2 y hy => hy⟩, ⟨rfl, _, rfl, fun _ => rfl, fun w2 y hy => hy⟩, ⟨rfl, _, rfl, fun _ => rfl, fun w2 y hy => hy⟩, ⟨rfl, _, rfl, fun _ => rfl, fun w2 y hy => hy⟩, ⟨rfl, _, rfl, fun _ => rfl, fun w2 y hy => hy⟩, ⟨rfl, _, rfl, fun _ => rfl, fun w2 y hy => hy⟩, ⟨rfl, _, rfl, fun _ => rfl, fun w2 y hy => hy⟩, ⟨rfl, _, rfl, fun _ => rfl, fun w2 y hy => hy⟩, trivial⟩, rfl, fun w2 hw2 hLo => ⟨hw2.1, fun r hr => ?_⟩⟩)
   simp only [List.mem_cons, List.not_mem_nil, or_false] at hr
   rcases hr with rfl
   · exact cells_st (f := prF) (fun _ => rfl) rfl (hge 9 _ rfl rfl) (hLo 9 (by simp) _ rfl)
 · rw [show ((([a] : List Lr).length : Nat) : Int) = 1 from rfl]
   have hm : ∀ x : Lr, x.L = [(9, 30), (0, 0), (9, 30), (9, 30)] → ([a] ++ [x]).map Lr.L = thL.take 2 := fun x hx => by
    rw [List.map_append, hmap]
    show thL.take 1 ++ [x.L] = _
    rw [hx]; rfl
   repeat'
    conv => whnf
    first
     | refine zA ?_ | refine zB ?_ | refine zC ?_ | refine zD ?_ | refine zE ?_ | refine zF ?_ | refine zG ?_ | refine zH ?_ | refine zJ ?_ | refine zI ?_ | refine splT ?_ | refine splF ?_ | refine splNot ?_
     | ((first | refine splIn ?_ ?_ | refine splD ?_ ?_ | refine splE ?_ ?_ | refine splNE ?_ ?_) <;> intro hc <;> first | (exfalso; omega) | (exfalso; dsimp only at hc; omega) | skip)
     | refine appG env 10 1 1 [.sl 9 0 4 4] 61 1 (([a] : List Lr).flatMap Lr.cs) [7] rfl rfl rfl rfl rfl (by decide) rfl rfl rfl (fun h => by cases h) (by omega) (by decide) rfl (.inr ⟨7, 8, rfl, rfl, rfl, (by show 7 < 11; decide)⟩) rfl ?_
   all_goals first | (exfalso; omega) | skip
   refine Dis.mk5 (w0 := w) (rho [(7, 11), (8, 12)]) [9] (by exact trivial) (fun i hi => by rw [List.mem_singleton] at hi; subst hi; exact ⟨_, rfl, rfl⟩) (fun w' h => h.1) (fun β w1 hok hw1 hge hne hij => ⟨[a, ⟨some ⟨β 9, 0, none⟩, 4, [(9, 30), (0, 0), (9, 30), (9, 30)]⟩], ⟨⟨by simp, hm _ rfl⟩, by (show 4 - 2 < 4 - 1); omega⟩, ⟨⟨_, rfl, rfl⟩, ⟨_, rfl, rfl⟩, ⟨_, rfl, rfl⟩, trivial⟩,
    ⟨⟨rfl, _, rfl, fun _ => rfl, fun w2 y hy => hy⟩, ⟨rfl, _, rfl, fun _ => rfl, fun w2 y hy => hy⟩, ⟨rfl, _, rfl, fun _ => rfl, fun w2 y hy => hy⟩, ⟨rfl, _, rfl, fun _ => rfl, fun w2 y hy => hy⟩, ⟨rfl, _, rfl, fun _ => rfl, fun w2 y hy => hy⟩, ⟨rfl, _, rfl, fun _ => rfl, fun w2 y hy => hy⟩, ⟨rfl, _, rfl, fun _ => rfl, fun w2 y hy => hy⟩, ⟨rfl, _, rfl, fun _ => rfl, fun w2 y hy => hy⟩, trivial⟩, rfl, fun w2 hw2 hLo => ⟨hw2.1, fun r hr => ?_⟩⟩)
   simp only [List.mem_cons, List.not_mem_nil, or_false] at hr
   rcases hr with rfl | rfl
   · exact hw2.2 _ (by simp)
   · exact cells_st (f := prF) (fun _ => rfl) rfl (hge 9 _ rfl rfl) (hLo 9 (by simp) _ rfl)
 · rw [show ((([a, b] : List Lr).length : Nat) : Int) = 2 from rfl]
   have hm : ∀ x : Lr, x.L = [(9, 30), (9, 30), (0, 0), (9, 30)] → ([a, b] ++ [x]).map Lr.L = thL.take 3 := fun x hx => by
    rw [List.map_append, hmap]
    show thL.take 2 ++ [x.L] = _
    rw [hx]; rfl
   repeat'
    conv => whnf
    first
     | refine zA ?_ | refine zB ?_ | refine zC ?_ | refine zD ?_ | refine zE ?_ | refine zF ?_ | refine zG ?_ | refine zH ?_ | refine zJ ?_ | refine zI ?_ | refine splT ?_ | refine splF ?_ | refine splNot ?_
     | ((first | refine splIn ?_ ?_ | refine splD ?_ ?_ | refine splE ?_ ?_ | refine splNE ?_ ?_) <;> intro hc <;> first | (exfalso; omega) | (exfalso; dsimp only at hc; omega) | skip)
     | refine appG env 10 1 1 [.sl 9 0 4 4] 61 2 (([a, b] : List Lr).flatMap Lr.cs) [7] rfl rfl rfl rfl rfl (by decide) rfl rfl rfl (fun h => by cases h) (by omega) (by decide) rfl (.inr ⟨7, 8, rfl, rfl, rfl, (by show 7 < 11; decide)⟩) rfl ?_
   all_goals first | (exfalso; omega) | skip
   refine Dis.mk5 (w0 := w) (rho [(7, 11), (8, 12)]) [9] (by exact trivial) (fun i hi => by rw [List.mem_singleton] at hi; subst hi; exact ⟨_, rfl, rfl⟩) (fun w' h => h.1) (fun β w1 hok hw1 hge hne hij => ⟨[a, b, ⟨some ⟨β 9, 0, none⟩, 4, [(9, 30), (9, 30), (0, 0), (9, 30)]⟩], ⟨⟨by simp, hm _ rfl⟩, by (show 4 - 3 < 4 - 2); omega⟩, ⟨⟨_, rfl, rfl⟩, ⟨_, rfl, rfl⟩, ⟨_, rfl, rfl⟩, trivial⟩,
    ⟨⟨rfl, _, rfl, fun _ => rfl, fun w2 y hy => hy⟩, ⟨rfl, _, rfl, fun _ => rfl, fun w2 y hy => hy⟩, ⟨rfl, _, rfl, fun _ => rfl, fun w2 y hy => hy⟩, ⟨rfl, _, rfl, fun _ => rfl, fun w2 y hy => hy⟩, ⟨rfl, _, rfl, fun _ => rfl, fun w2 y hy => hy⟩, ⟨rfl, _, rfl, fun _ => rfl, fun w2 y hy => hy⟩, ⟨rfl, _, rfl, fun _ => rfl, fun w2 y hy => hy⟩, ⟨rfl, _, rfl, fun _ => rfl, fun w2 y hy => hy⟩, trivial⟩, rfl, fun w2 hw2 hLo => ⟨hw2.1, fun r hr => ?_⟩⟩)
   simp only [List.mem_cons, List.not_mem_nil, or_false] at hr
   rcases hr with rfl | rfl | rfl
   · exact hw2.2 _ (by simp)
   · exact hw2.2 _ (by simp)
   · exact cells_st (f := prF) (fun _ => rfl) rfl (hge 9 _ rfl rfl) (hLo 9 (by simp) _ rfl)
 · rw [show ((([a, b, c] : List Lr).length : Nat) : Int) = 3 from rfl]
   have hm : ∀ x : Lr, x.L = [(9, 30), (9, 30), (9, 30), (0, 0)] → ([a, b, c] ++ [x]).map Lr.L = thL.take 4 := fun x hx => by
    rw [List.map_append, hmap]
    show thL.take 3 ++ [x.L] = _
    rw [hx]; rfl
   repeat'
    conv => whnf
    first
     | refine zA ?_ | refine zB ?_ | refine zC ?_ | refine zD ?_ | refine zE ?_ | refine zF ?_ | refine zG ?_ | refine zH ?_ | refine zJ ?_ | refine zI ?_ | refine splT ?_ | refine splF ?_ | refine splNot ?_
     | ((first | refine splIn ?_ ?_ | refine splD ?_ ?_ | refine splE ?_ ?_ | refine splNE ?_ ?_) <;> intro hc <;> first | (exfalso; omega) | (exfalso; dsimp only at hc; omega) | skip)
     | refine appG env 10 1 1 [.sl 9 0 4 4] 61 3 (([a, b, c] : List Lr).flatMap Lr.cs) [7] rfl rfl rfl rfl rfl (by decide) rfl rfl rfl (fun h => by cases h) (by omega) (by decide) rfl (.inr ⟨7, 8, rfl, rfl, rfl, (by show 7 < 11; decide)⟩) rfl ?_
   all_goals first | (exfalso; omega) | skip
   refine Dis.mk5 (w0 := w) (rho [(7, 11), (8, 12)]) [9] (by exact trivial) (fun i hi => by rw [List.mem_singleton] at hi; subst hi; exact ⟨_, rfl, rfl⟩) (fun w' h => h.1) (fun β w1 hok hw1 hge hne hij => ⟨[a, b, c, ⟨some ⟨β 9, 0, none⟩, 4, [(9, 30), (9, 30), (9, 30), (0, 0)]⟩], ⟨⟨by simp, hm _ rfl⟩, by (show 4 - 4 < 4 - 3); omega⟩, ⟨⟨_, rfl, rfl⟩, ⟨_, rfl, rfl⟩, ⟨_, rfl, rfl⟩, trivial⟩,
    ⟨⟨rfl, _, rfl, fun _ => rfl, fun w2 y hy => hy⟩, ⟨rfl, _, rfl, fun _ => rfl, fun w2 y hy => hy⟩, ⟨rfl, _, rfl, fun _ => rfl, fun w2 y hy => hy⟩, ⟨rfl, _, rfl, fun _ => rfl, fun w2 y hy => hy⟩, ⟨rfl, _, rfl, fun _ => rfl, fun w2 y hy => hy⟩, ⟨rfl, _, rfl, fun _ => rfl, fun w2 y hy => hy⟩, ⟨rfl, _, rfl, fun _ => rfl, fun w2 y hy => hy⟩, ⟨rfl, _, rfl, fun _ => rfl, fun w2 y hy => hy⟩, trivial⟩, rfl, fun w2 hw2 hLo => ⟨hw2.1, fun r hr => ?_⟩⟩)
   simp only [List.mem_cons, List.not_mem_nil, or_false] at hr
   rcases hr with rfl | rfl | rfl | rfl
   · exact hw2.2 _ (by simp)
   · exact hw2.2 _ (by simp)
   · exact hw2.2 _ (by simp)
   · exact cells_st (f := prF) (fun _ => rfl) rfl (hge 9 _ rfl rfl) (hLo 9 (by simp) _ rfl)
 · obtain rfl : D = [] := List.length_eq_zero_iff.1 (by simp only [List.length_cons] at hk; omega)
   rw [show ((([a, b, c, d] : List Lr).length : Nat) : Int) = 4 from rfl]
   simp only [List.map_cons, List.map_nil, List.length_cons, List.length_nil, thL, List.take, List.cons.injEq, and_true] at hmap
   obtain ⟨ha, hb, hc, hd⟩ := hmap
   repeat'
    conv => whnf
    first
     | refine zA ?_ | refine zB ?_ | refine zC ?_ | refine zD ?_ | refine zE ?_ | refine zF ?_ | refine zG ?_ | refine zH ?_ | refine zJ ?_ | refine zI ?_ | refine splT ?_ | refine splF ?_ | refine splNot ?_
     | ((first | refine splIn ?_ ?_ | refine splD ?_ ?_ | refine splE ?_ ?_ | refine splNE ?_ ?_) <;> intro hc <;> first | (exfalso; omega) | (exfalso; dsimp only at hc; omega) | skip)
   all_goals first | (exfalso; omega) | skip
   refine ⟨fun w' h => h.1, fun β w' hw' hblk => ?_⟩
   refine ⟨⟨10, 8, 50, some ⟨β 5, 0, none⟩, 4, [⟨none, 0, none, 0, ⟨[], 0, 0, 0, 0, 0, [], 0, 0⟩⟩, ⟨some ⟨β 1, 0, none⟩, 1, none, 0, ⟨[(0, 4)], 1, 3, 100, 60, 10, [], 0, 0⟩⟩, ⟨some ⟨β 2, 0, none⟩, 1, some ⟨β 3, 0, none⟩, 1, ⟨[(2, 9)], 2, 2, 150, 50, 20, [(3, 3)], 1, 400⟩⟩, ⟨some ⟨β 4, 0, none⟩, 1, none, 0, ⟨[(0, 9)], 1, 10, 900, 40, 0, [], 0, 0⟩⟩], some ⟨β 7, 0, none⟩, β 8, [a, b, c, d]⟩, rfl, fun w2 k2 => ⟨?_, ?_⟩⟩
   · refine ⟨Rd.of_cells (f := Tn.cs) (fun _ => rfl) rfl (hblk 5 _ rfl rfl w2 k2), fun t ht => ?_, Rd.of_owns (sz := 1) (f := Lr.cs) (fun _ => rfl) rfl rfl (hblk 7 _ rfl rfl w2 k2), fun r hr => hw'.2 r hr w2 k2, by (show 4 ≤ 1000000); decide, by (show 4 ≤ 1000000); decide, fun r hr => ?_, by (show 4 ≤ 4); decide⟩
     · simp only [List.mem_cons, List.not_mem_nil, or_false] at ht
       rcases ht with rfl | rfl | rfl | rfl
       · exact ⟨.inl ⟨rfl, rfl⟩, .inl ⟨rfl, rfl⟩, by simp, by simp⟩
       · exact ⟨Rd.of_cells (f := prF) (fun _ => rfl) rfl (hblk 1 _ rfl rfl w2 k2), .inl ⟨rfl, rfl⟩, by simp, by simp⟩
       · exact ⟨Rd.of_cells (f := prF) (fun _ => rfl) rfl (hblk 2 _ rfl rfl w2 k2), Rd.of_cells (f := prF) (fun _ => rfl) rfl (hblk 3 _ rfl rfl w2 k2), by simp, by simp⟩
       · exact ⟨Rd.of_cells (f := prF) (fun _ => rfl) rfl (hblk 4 _ rfl rfl w2 k2), .inl ⟨rfl, rfl⟩, by simp, by simp⟩
     · simp only [List.mem_cons, List.not_mem_nil, or_false] at hr
       rcases hr with rfl | rfl | rfl | rfl
       · rw [ha]; decide
       · rw [hb]; decide
       · rw [hc]; decide
       · rw [hd]; decide
   · simp only [Tr.d, List.map_cons, List.map_nil, ha, hb, hc, hd]; rfl
end Go.Proofs.Ythfabodamhdhaaa
