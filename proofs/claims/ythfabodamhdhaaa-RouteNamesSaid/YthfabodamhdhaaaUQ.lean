/- The law of names: the examples of the chapter, and errors. -/
import Derived.Test.YthfabodamhdhaaaUM
import Derived.Test.YthfabodamhdhaaaTR
import Derived.Test.YthfabodamhdhaaaSX
import Derived.Test.YthfabodamhdhaaaRH
namespace Go.Proofs.Ythfabodamhdhaaa
open Go Tx Go.RowKit
set_option linter.unusedSimpArgs false
set_option linter.unusedVariables false
set_option maxHeartbeats 4000000 in
set_option maxRecDepth 100000 in
theorem stops_same (S : List (Int × Int × Int)) (o1 o2 : Option Addr) (c1 c2 : Nat) (w : World) (h1 : Rd 3 spF (.slice o1 S.length c1) S w) (h2 : Rd 3 spF (.slice o2 S.length c2) S w) (hl : S.length ≤ 1000) :
 Calls Try.prog 48 #[.slice o1 S.length c1, .slice o2 S.length c2] w fun e w' => e = .returned (.bool true) ∧ Below w.heap.size w w' := by
 refine calls_val env mixed Try.func48 has48 Try.ntmps48 [.slice o1 S.length c1, .slice o2 S.length c2] (by simp) ?_
 repeat'
  conv => whnf
  first
   | refine zA ?_ | refine zB ?_ | refine zC ?_ | refine zD ?_ | refine zE ?_ | refine zF ?_ | refine zG ?_ | refine zH ?_ | refine zJ ?_ | refine zI ?_ | refine splT ?_ | refine splF ?_ | refine splNot ?_
   | ((first | refine splIn ?_ ?_ | refine splD ?_ ?_ | refine splE ?_ ?_ | refine splNE ?_ ?_) <;> intro hc <;> first | (exfalso; omega) | (exfalso; dsimp only at hc; omega) | skip)
 all_goals first | (exfalso; omega) | skip
 refine loopE (fun k : Nat => [(0, .v (.slice o1 S.length c1)), (1, .v (.slice o2 S.length c2)), (5, .v (iv k))]) (fun _ => []) (fun k => k ≤ S.length) (fun k => S.length - k) 0 (Nat.zero_le _) ⟨rfl, rfl, rfl, trivial⟩ trivial (fun _ => ⟨rfl, rfl⟩) ?_
 intro k hk
 rcases Nat.lt_or_ge k S.length with hkl | hkl
 · obtain ⟨⟨a, f, l⟩, hs⟩ : ∃ s, S[k]? = some s := ⟨_, List.getElem?_eq_getElem hkl⟩
   obtain ⟨_, a1, rfl, _⟩ := h1.ptr (by omega)
   obtain ⟨_, a2, rfl, _⟩ := h2.ptr (by omega)
   have e0 := fun (w' : World) hw' => rd_ati (h1.below (w' := w') hw') hs
   have e1 := fun (w' : World) hw' => rd_fldz (h2.below (w' := w') hw') hs _ rfl 0 (iv a) rfl
   have e2 := fun (w' : World) hw' => rd_fldz (h2.below (w' := w') hw') hs _ rfl 1 (iv f) rfl
   have e3 := fun (w' : World) hw' => rd_fldz (h2.below (w' := w') hw') hs _ rfl 2 (iv l) rfl
   repeat'
    conv => whnf
    first
     | refine zA ?_ | refine zB ?_ | refine zC ?_ | refine zD ?_ | refine zE ?_ | refine zF ?_ | refine zG ?_ | refine zH ?_ | refine zJ ?_ | refine zI ?_ | refine splT ?_ | refine splF ?_ | refine splNot ?_
     | ((first | refine splIn ?_ ?_ | refine splD ?_ ?_ | refine splE ?_ ?_ | refine splNE ?_ ?_) <;> intro hc <;> first | (exfalso; omega) | (exfalso; dsimp only at hc; omega) | skip)
     | refine Exists.intro (α := List Value) [iv a, iv f, iv l] ⟨⟨rfl, fun w' hw' => e0 w' hw'⟩, ?_⟩
     | refine Exists.intro (α := List Value) [iv a] ⟨⟨rfl, fun w' hw' => e1 w' hw'⟩, ?_⟩
     | refine Exists.intro (α := List Value) [iv f] ⟨⟨rfl, fun w' hw' => e2 w' hw'⟩, ?_⟩
     | refine Exists.intro (α := List Value) [iv l] ⟨⟨rfl, fun w' hw' => e3 w' hw'⟩, ?_⟩
     | refine neqE96 (q := false) (by simp) ?_
   all_goals first | (exfalso; omega) | exact ⟨k + 1, by omega, by omega, Ent.weak rfl ⟨rfl, rfl, rfl, trivial⟩ trivial fun _ h => h⟩
 · obtain rfl : k = S.length := by omega
   repeat'
    conv => whnf
    first
     | refine zA ?_ | refine zB ?_ | refine zC ?_ | refine zD ?_ | refine zE ?_ | refine zF ?_ | refine zG ?_ | refine zH ?_ | refine zJ ?_ | refine zI ?_ | refine splT ?_ | refine splF ?_ | refine splNot ?_
     | ((first | refine splIn ?_ ?_ | refine splD ?_ ?_ | refine splE ?_ ?_ | refine splNE ?_ ?_) <;> intro hc <;> first | (exfalso; omega) | (exfalso; dsimp only at hc; omega) | skip)
   all_goals first | (exfalso; omega) | exact ⟨fun β => rfl, fun w' h => h⟩
theorem tb_iw {m N : Nat} {y : TbG} {C : List (List Int)} {w : World} (h : TbIn m N y C w) : ∃ R : List Iw, R.length = y.D.length ∧ Rd 1 Iw.cs (.slice (some ⟨y.o, 0, none⟩) R.length y.c) R w ∧ (∀ r ∈ R, Rd 1 iF (.slice r.o r.xs.length r.c) r.xs w) ∧ R.map Iw.xs = C := by
 refine ⟨y.D.zipWith (fun p xs => ⟨some ⟨p.1, 0, none⟩, p.2, xs⟩) C, ?_, ?_, ?_, ?_⟩
 · rw [List.length_zipWith]; have := h.l; omega
 · have hl : (y.D.zipWith (fun p xs => (⟨some ⟨p.1, 0, none⟩, p.2, xs⟩ : Iw)) C).length = y.D.length := by rw [List.length_zipWith]; have := h.l; omega
   have e : (y.D.zipWith (fun p xs => (⟨some ⟨p.1, 0, none⟩, p.2, xs⟩ : Iw)) C).flatMap Iw.cs = y.D.map fun p => .slice (some ⟨p.1, 0, none⟩) N p.2 := by
    have hn := h.n
    have hl2 := h.l
    clear h hl
    generalize y.D = D at *
    induction D generalizing C with
    | nil => rfl
    | cons p D ih =>
     cases C with
     | nil => simp at hl2
     | cons xs C =>
      rw [List.zipWith_cons_cons, List.flatMap_cons, List.map_cons, ih (fun r hr => hn r (List.mem_cons_of_mem _ hr)) (by simp only [List.length_cons] at hl2; omega)]
      show [Value.slice _ xs.length _] ++ _ = _
      rw [hn xs (List.mem_cons_self ..)]; rfl
   have key : w.ownsRow 0 43 1 (.slice (some ⟨y.o, 0, none⟩) (y.D.zipWith (fun p xs => (⟨some ⟨p.1, 0, none⟩, p.2, xs⟩ : Iw)) C).length y.c) (y.D.zipWith (fun p xs => (⟨some ⟨p.1, 0, none⟩, p.2, xs⟩ : Iw)) C).length ((y.D.zipWith (fun p xs => (⟨some ⟨p.1, 0, none⟩, p.2, xs⟩ : Iw)) C).flatMap Iw.cs) := by rw [hl, e]; exact h.h
   exact Rd.of_owns (sz := 1) (f := Iw.cs) (fun _ => rfl) rfl rfl key
 · intro r hr
   obtain ⟨i, hi⟩ := List.mem_iff_getElem?.1 hr
   rw [List.getElem?_zipWith] at hi
   cases hp : y.D[i]? with
   | none => rw [hp] at hi; simp at hi
   | some p =>
    cases hx : C[i]? with
    | none => rw [hp, hx] at hi; simp at hi
    | some xs =>
     rw [hp, hx] at hi
     simp only [Option.some.injEq] at hi
     subst hi
     have hn := h.n xs (List.mem_of_getElem? hx)
     have := h.r i p xs hp hx
     dsimp only
     rw [← hn] at this
     exact Rd.of_owns (sz := 1) (f := iF) (fun _ => rfl) rfl rfl this
 · have hl2 := h.l
   clear h
   generalize y.D = D at *
   induction D generalizing C with
   | nil => cases C with | nil => rfl | cons a b => simp at hl2
   | cons p D ih =>
    cases C with
    | nil => simp at hl2
    | cons xs C =>
     rw [List.zipWith_cons_cons, List.map_cons, ih (by simp only [List.length_cons] at hl2; omega)]
set_option maxRecDepth 100000
abbrev nmB : List (Int × Int × Int) := [(1, 1, 3), (2, 5, 6)]
abbrev nmF : List Int := [0, 0, 0, 0]
abbrev nmZ : List (Int × Int × Int) := List.replicate 21 (0, 0, 0)
theorem nm_pf : pfV thD nmB = (440, 0) := by kernel_rfl
theorem nm_rp : rpV thD nmB 1 = ([(1, 1, 3)], -230, 0) := by kernel_rfl
theorem nm_rp2 : rpV thD nmB 2 = ([], 0, 2) := by kernel_rfl
theorem nm_pf1 : pfV thD [(1, 0, 0)] = (0, 9) := by kernel_rfl
theorem nm_pf2 : pfV thD nmZ = (0, 3) := by kernel_rfl
theorem nm_pf3 : pfV thD [] = (0, 0) := by kernel_rfl
theorem nm_sh : shO thD nmF 440 (tabO thD nmF) = true := by kernel_rfl
theorem nm_sh2 : shO thD nmF 439 (tabO thD nmF) = false := by kernel_rfl
theorem nm_fe : feB 4 [1, 0, 0, 0] = false := by kernel_rfl
theorem nm_d0 : dayV thD 0 1 = (0, 2) := by kernel_rfl
theorem nm_l0 : lostV thD 0 4 = (0, 2) := by kernel_rfl
theorem nm_d (k : Nat) (hk : k < 4) : dayV thD 2 (k + 2) = (([150, 90, 90, 150] : List Int)[k]?.getD 0, 0) := by
 rcases (by omega : k = 0 ∨ k = 1 ∨ k = 2 ∨ k = 3) with rfl | rfl | rfl | rfl <;> kernel_rfl
theorem nm_t (y : Tr) (h : y.d = thD) : y.T.length = 4 ∧ y.days = 10 := by
 have h1 := congrArg (fun x : To => x.T.length) h
 have h2 := congrArg (fun x : To => x.days) h
 simp [Tr.d, thD, thT] at h1 h2
 exact ⟨h1, h2⟩
theorem nm_sp (β : Nat → Nat) (w' : World) (i : Nat) (h : (Blk.cells [.v (iv 1), .v (iv 1), .v (iv 3), .v (iv 2), .v (iv 5), .v (iv 6)] 96).ok β w' (β i)) : SpIn (some ⟨β i, 0, none⟩) 2 nmB w' :=
 ⟨Rd.of_cells (sz := 3) (f := spF) (fun _ => rfl) rfl h, by decide, by decide, by decide⟩
set_option maxHeartbeats 8000000 in
set_option maxRecDepth 100000 in
theorem Nm0 (w : World) (h5 : ∀ (z : Option Addr × Nat) (t : TbG), VC Try.prog (rest 5 body14) ⟨196, [(1, .sl 0 0 2 2), (2, .v (iv 440)), (3, .v (iv 0)), (4, .v (sV 1 z)), (5, .v (iv (-230))), (6, .v (iv 0)), (7, .v (iv 440)), (8, .v t.v), (9, .v (iv 0))], [(0, .cells [.v (iv 1), .v (iv 1), .v (iv 3), .v (iv 2), .v (iv 5), .v (iv 6)] 96)], 1, fun w2 => (Below w.heap.size w w2 ∧ Rd 3 spF (sV 1 z) [(1, 1, 3)] w2) ∧ ∃ m, TbIn m 11 t (tabO thD nmF) w2, z0⟩ (endΦ env Try.f14 fun s σ => (∀ β, s.c β = .bool true) ∧ ∀ w', σ.h w' → Below w.heap.size w w')) :
 VC Try.prog body14 ⟨196, slotsOf 0 ([].map SV.v), [], 0, Below w.heap.size w, z0⟩ (endΦ env Try.f14 fun s σ => (∀ β, s.c β = .bool true) ∧ ∀ w', σ.h w' → Below w.heap.size w w') := by
 have h42 : ∀ (y : Tr) (β : Nat → Nat) w', TrIn y w' ∧ y.d = thD → (Blk.cells [.v (iv 1), .v (iv 1), .v (iv 3), .v (iv 2), .v (iv 5), .v (iv 6)] 96).ok β w' (β 0) → Calls Try.prog 42 #[y.v, .slice (some ⟨β 0, 0, none⟩) 2 2] w' fun e w2 => e = .returned (.tuple #[iv 440, iv 0]) ∧ Below w'.heap.size w' w2 := fun y β w' h hb => by
  have := Profit_ok y (some ⟨β 0, 0, none⟩) 2 nmB w' h.1 (nm_sp β w' 0 hb)
  rw [h.2, nm_pf] at this
  exact this
 have h46 : ∀ (y : Tr) (β : Nat → Nat) w', TrIn y w' ∧ y.d = thD → (Blk.cells [.v (iv 1), .v (iv 1), .v (iv 3), .v (iv 2), .v (iv 5), .v (iv 6)] 96).ok β w' (β 0) → Calls Try.prog 46 #[y.v, .slice (some ⟨β 0, 0, none⟩) 2 2, iv 1] w' fun e w2 => ∃ z : Option Addr × Nat, e = .returned (.tuple #[sV 1 z, iv (-230), iv 0]) ∧ Below w'.heap.size w' w2 ∧ St w'.heap.size (Rd 3 spF (sV 1 z) [(1, 1, 3)]) w2 := fun y β w' h hb => by
  have := Replace_ok y (some ⟨β 0, 0, none⟩) 2 nmB 1 w' h.1 (nm_sp β w' 0 hb)
  rw [h.2, nm_rp] at this
  exact this.mono fun e w2 ⟨z, e1, e2, e3⟩ => ⟨z, e1, e2, e3.imp fun w3 h3 => h3.1⟩
 have h28 : ∀ (y : Tr) b w', TrIn y w' ∧ y.d = thD → w'.heap[b]? = some (.cells (nmF.flatMap iF).toArray 3 (0, 0)) → Calls Try.prog 28 #[y.v, .slice (some ⟨b, 0, none⟩) 4 4] w' fun e w2 => ∃ t : TbG, e = .returned (.tuple #[iv 440, t.v, iv 0]) ∧ Below w'.heap.size w' w2 ∧ St w'.heap.size (fun w2 => ∃ m, TbIn m 11 t (tabO thD nmF) w2) w2 := fun y b w' h hb => by
  have hl := nm_t y h.2
  have := Bound_yes y (some ⟨b, 0, none⟩) 4 nmF w' h.1 (Rd.of_cells (f := iF) (fun _ => rfl) rfl hb) (by rw [h.2]; exact th_toB) (by rw [hl.1]; exact th_fee)
  rw [h.2, th_bnd, hl.2] at this
  exact this.mono fun e w2 ⟨z, e1, e2, e3⟩ => ⟨z, e1, e2, e3.imp fun w3 h3 => ⟨_, h3⟩⟩
 refine VC.cutH env mixed 5 1 (fun p : (Option Addr × Nat) × TbG => [(1, .sl 0 0 2 2), (2, .v (iv 440)), (3, .v (iv 0)), (4, .v (sV 1 p.1)), (5, .v (iv (-230))), (6, .v (iv 0)), (7, .v (iv 440)), (8, .v p.2.v), (9, .v (iv 0))]) (fun _ => [(0, .cells [.v (iv 1), .v (iv 1), .v (iv 3), .v (iv 2), .v (iv 5), .v (iv 6)] 96)]) (fun p w2 => (Below w.heap.size w w2 ∧ Rd 3 spF (sV 1 p.1) [(1, 1, 3)] w2) ∧ ∃ m, TbIn m 11 p.2 (tabO thD nmF) w2) (fun _ => True) (fun _ _ => ⟨rfl, rfl⟩) ?_ (fun ⟨z, t⟩ _ => h5 z t)
 clear h5
 repeat'
  conv => whnf
  first
   | refine zA ?_ | refine zB ?_ | refine zC ?_ | refine zD ?_ | refine zE ?_ | refine zF ?_ | refine zG ?_ | refine zH ?_ | refine zJ ?_ | refine zI ?_ | refine splT ?_ | refine splF ?_ | refine splNot ?_
   | ((first | refine splIn ?_ ?_ | refine splD ?_ ?_ | refine splE ?_ ?_ | refine splNE ?_ ?_) <;> intro hc <;> first | (exfalso; omega) | (exfalso; dsimp only at hc; omega) | skip)
   | ((with_reducible show CallEv _ _ 49 _ _ _ _ _); refine callF [] (fun y : Tr => y.v) (fun y w2 => TrIn y w2 ∧ y.d = thD) (fun β w' _ hbw => Three_ok w') ?_; intro y)
   | ((with_reducible show CallEv _ _ 42 _ _ _ _ _); refine callM [0] (fun β w' hbk hbw => h42 y β w' hbw.2 (hbk 0 (by simp) _ rfl)) ?_)
   | ((with_reducible show CallEv _ _ 46 _ _ _ _ _); refine callF [0] (fun z : Option Addr × Nat => .tuple #[sV 1 z, iv (-230), iv 0]) (fun z w2 => Rd 3 spF (sV 1 z) [(1, 1, 3)] w2) (fun β w' hbk hbw => h46 _ β w' hbw.2 (hbk 0 (by simp) _ rfl)) ?_; intro z)
   | ((with_reducible show CallEv _ _ 28 _ _ _ _ _); refine callF [1] (fun t : TbG => .tuple #[iv 440, t.v, iv 0]) (fun t w2 => ∃ m, TbIn m 11 t (tabO thD nmF) w2) (fun β w' hbk hbw => h28 _ (β 1) w' hbw.2 (hbk 1 (by simp) _ rfl)) ?_; intro t)
 all_goals first | (exfalso; omega) | exact ⟨rfl, (z, t), trivial, Ent.weak rfl ⟨rfl, rfl, rfl, rfl, rfl, rfl, rfl, rfl, rfl, trivial⟩ ⟨rfl, trivial⟩ fun w2 h => ⟨⟨(by repeat (first | exact h | replace h := h.1)), h.1.1.2⟩, h.2⟩⟩
set_option maxHeartbeats 8000000 in
set_option maxRecDepth 100000 in
theorem Nm5 (w : World) (z : Option Addr × Nat) (t : TbG) (h6 : VC Try.prog (rest 6 body14) ⟨196, [(1, .sl 0 0 2 2)], [(0, .cells [.v (iv 1), .v (iv 1), .v (iv 3), .v (iv 2), .v (iv 5), .v (iv 6)] 96)], 1, fun w2 => Below w.heap.size w w2, z0⟩ (endΦ env Try.f14 fun s σ => (∀ β, s.c β = .bool true) ∧ ∀ w', σ.h w' → Below w.heap.size w w')) :
 VC Try.prog (rest 5 body14) ⟨196, [(1, .sl 0 0 2 2), (2, .v (iv 440)), (3, .v (iv 0)), (4, .v (sV 1 z)), (5, .v (iv (-230))), (6, .v (iv 0)), (7, .v (iv 440)), (8, .v t.v), (9, .v (iv 0))], [(0, .cells [.v (iv 1), .v (iv 1), .v (iv 3), .v (iv 2), .v (iv 5), .v (iv 6)] 96)], 1, fun w2 => (Below w.heap.size w w2 ∧ Rd 3 spF (sV 1 z) [(1, 1, 3)] w2) ∧ ∃ m, TbIn m 11 t (tabO thD nmF) w2, z0⟩ (endΦ env Try.f14 fun s σ => (∀ β, s.c β = .bool true) ∧ ∀ w', σ.h w' → Below w.heap.size w w') := by
 have h48 : ∀ b w', Rd 3 spF (sV 1 z) [(1, 1, 3)] w' → w'.heap[b]? = some (.cells (([(1, 1, 3)] : List (Int × Int × Int)).flatMap spF).toArray 89 (0, 0)) → Calls Try.prog 48 #[sV 1 z, .slice (some ⟨b, 0, none⟩) 1 1] w' fun e w2 => e = .returned (.bool true) ∧ Below w'.heap.size w' w2 := fun b w' h hb =>
  stops_same [(1, 1, 3)] z.1 (some ⟨b, 0, none⟩) z.2 1 w' h (Rd.of_cells (f := spF) (fun _ => rfl) rfl hb) (by decide)
 have h43 : ∀ (q : Int) (v : Bool), shO thD nmF q (tabO thD nmF) = v → ∀ (y : Tr) b w', (∃ m, TbIn m 11 t (tabO thD nmF) w') → TrIn y w' ∧ y.d = thD → w'.heap[b]? = some (.cells (nmF.flatMap iF).toArray 3 (0, 0)) → Calls Try.prog 43 #[y.v, .slice (some ⟨b, 0, none⟩) 4 4, iv q, t.v] w' fun e w2 => e = .returned (.bool v) ∧ Below w'.heap.size w' w2 := fun q v hv y b w' ht h hb => by
  obtain ⟨m, hm⟩ := ht
  obtain ⟨R, r1, r2, r3, r4⟩ := tb_iw hm
  have hl := nm_t y h.2
  have hrl : R.length = (tabO thD nmF).length := by rw [← r4, List.length_map]
  have hn := hm.n
  have h11 : (tabO thD nmF).length = 4 := by kernel_rfl
  have := PB_ok y (some ⟨b, 0, none⟩) 4 nmF q (some ⟨t.o, 0, none⟩) t.c R w' h.1 (Rd.of_cells (f := iF) (fun _ => rfl) rfl hb) (by decide) r2 r3 (by omega) (fun r hr => by
   have := hn r.xs (by rw [← r4]; exact List.mem_map.2 ⟨r, hr, rfl⟩)
   omega)
  rw [h.2, hl.1, r4, hv, r1, th_toB, th_fee, Bool.true_and, Bool.true_and] at this
  exact this
 have h43a := h43 440 true nm_sh
 have h43b := h43 439 false nm_sh2
 refine VC.cutH env mixed 1 1 (fun _ : Unit => [(1, .sl 0 0 2 2)]) (fun _ => [(0, .cells [.v (iv 1), .v (iv 1), .v (iv 3), .v (iv 2), .v (iv 5), .v (iv 6)] 96)]) (fun _ w2 => Below w.heap.size w w2) (fun _ => True) (fun _ _ => ⟨rfl, rfl⟩) ?_ (fun _ _ => h6)
 clear h6 h43
 obtain ⟨t1, t2, t3⟩ := t
 repeat'
  conv => whnf
  first
   | refine zA ?_ | refine zB ?_ | refine zC ?_ | refine zD ?_ | refine zE ?_ | refine zF ?_ | refine zG ?_ | refine zH ?_ | refine zJ ?_ | refine zI ?_ | refine splT ?_ | refine splF ?_ | refine splNot ?_
   | ((first | refine splIn ?_ ?_ | refine splD ?_ ?_ | refine splE ?_ ?_ | refine splNE ?_ ?_) <;> intro hc <;> first | (exfalso; omega) | (exfalso; dsimp only at hc; omega) | skip)
   | ((with_reducible show CallEv _ _ 49 _ _ _ _ _); refine callF [] (fun y : Tr => y.v) (fun y w2 => TrIn y w2 ∧ y.d = thD) (fun β w' _ hbw => Three_ok w') ?_; intro y)
   | ((with_reducible show CallEv _ _ 48 _ _ _ _ _); refine callM [1] (fun β w' hbk hbw => h48 (β 1) w' (by first | exact hbw.1.2 | exact hbw.1.1.2 | exact hbw.1.1.1.2) (hbk 1 (by simp) _ rfl)) ?_)
   | ((with_reducible show CallEv _ _ 43 [_, _, .v (.int .i64 440), _] _ _ _ _); refine callM [2] (fun β w' hbk hbw => h43a _ (β 2) w' (by first | exact hbw.2 | exact hbw.1.2 | exact hbw.1.1.2) hbw.2 (hbk 2 (by simp) _ rfl)) ?_)
   | ((with_reducible show CallEv _ _ 43 _ _ _ _ _); refine callM [3] (fun β w' hbk hbw => h43b _ (β 3) w' (by first | exact hbw.2 | exact hbw.1.2 | exact hbw.1.1.2) hbw.2 (hbk 3 (by simp) _ rfl)) ?_)
 all_goals first | (exfalso; omega) | exact ⟨rfl, (), trivial, Ent.weak rfl ⟨rfl, trivial⟩ ⟨rfl, trivial⟩ fun w2 h => (by repeat (first | exact h | replace h := h.1))⟩
set_option maxHeartbeats 8000000 in
set_option maxRecDepth 100000 in
theorem Nm6 (w : World) (h7 : VC Try.prog (rest 1 (rest 6 body14)) ⟨196, [(1, .sl 0 0 2 2)], [(0, .cells [.v (iv 1), .v (iv 1), .v (iv 3), .v (iv 2), .v (iv 5), .v (iv 6)] 96)], 1, fun w2 => Below w.heap.size w w2, z0⟩ (endΦ env Try.f14 fun s σ => (∀ β, s.c β = .bool true) ∧ ∀ w', σ.h w' → Below w.heap.size w w')) :
 VC Try.prog (rest 6 body14) ⟨196, [(1, .sl 0 0 2 2)], [(0, .cells [.v (iv 1), .v (iv 1), .v (iv 3), .v (iv 2), .v (iv 5), .v (iv 6)] 96)], 1, fun w2 => Below w.heap.size w w2, z0⟩ (endΦ env Try.f14 fun s σ => (∀ β, s.c β = .bool true) ∧ ∀ w', σ.h w' → Below w.heap.size w w') := by
 have h34 : ∀ (k : Nat), k < 4 → ∀ (y : Tr) w', TrIn y w' ∧ y.d = thD → Calls Try.prog 34 #[y.v, iv 2, iv ((k : Int) + 2)] w' fun e w2 => e = .returned (.tuple #[iv (([150, 90, 90, 150] : List Int)[k]?.getD 0), iv 0]) ∧ Below w'.heap.size w' w2 := fun k hk y w' h => by
  have := Day_ok y 2 ((k : Int) + 2) w' h.1
  rw [h.2, nm_d k hk] at this
  exact this
 refine VC.cutH env mixed 1 1 (fun _ : Unit => [(1, .sl 0 0 2 2)]) (fun _ => [(0, .cells [.v (iv 1), .v (iv 1), .v (iv 3), .v (iv 2), .v (iv 5), .v (iv 6)] 96)]) (fun _ w2 => Below w.heap.size w w2) (fun _ => True) (fun _ _ => ⟨rfl, rfl⟩) ?_ (fun _ _ => h7)
 clear h7
 repeat'
  conv => whnf
  first
   | refine zA ?_ | refine zB ?_ | refine zC ?_ | refine zD ?_ | refine zE ?_ | refine zF ?_ | refine zG ?_ | refine zH ?_ | refine zJ ?_ | refine zI ?_ | refine splT ?_ | refine splF ?_ | refine splNot ?_
   | ((first | refine splIn ?_ ?_ | refine splD ?_ ?_ | refine splE ?_ ?_ | refine splNE ?_ ?_) <;> intro hc <;> first | (exfalso; omega) | (exfalso; dsimp only at hc; omega) | skip)
 all_goals first | (exfalso; omega) | skip
 refine loopH 2 (fun k : Nat => [(1, .sl 0 0 2 2), (94, .sl 1 0 4 4), (95, .v (iv 4)), (96, .v (iv k))]) (fun _ => [(0, .cells [.v (iv 1), .v (iv 1), .v (iv 3), .v (iv 2), .v (iv 5), .v (iv 6)] 96), (1, .cells [.v (iv 150), .v (iv 90), .v (iv 90), .v (iv 150)] 3)]) (fun _ w2 => Below w.heap.size w w2) (fun k => k ≤ 4) (fun k => 4 - k) 0 (Nat.zero_le _) ⟨rfl, rfl, rfl, rfl, trivial⟩ ⟨rfl, rfl, trivial⟩ (fun _ h => h) (fun _ _ => ⟨rfl, rfl⟩) ?_
 intro k hk
 rcases (by omega : k = 0 ∨ k = 1 ∨ k = 2 ∨ k = 3 ∨ k = 4) with rfl | rfl | rfl | rfl | rfl
 · have h34k : ∀ (y : Tr) w', TrIn y w' ∧ y.d = thD → Calls Try.prog 34 #[y.v, iv 2, iv 2] w' fun e w2 => e = .returned (.tuple #[iv 150, iv 0]) ∧ Below w'.heap.size w' w2 := h34 0 (by decide)
   repeat'
    conv => whnf
    first
     | refine zA ?_ | refine zB ?_ | refine zC ?_ | refine zD ?_ | refine zE ?_ | refine zF ?_ | refine zG ?_ | refine zH ?_ | refine zJ ?_ | refine zI ?_ | refine splT ?_ | refine splF ?_ | refine splNot ?_
     | ((first | refine splIn ?_ ?_ | refine splD ?_ ?_ | refine splE ?_ ?_ | refine splNE ?_ ?_) <;> intro hc <;> first | (exfalso; omega) | (exfalso; dsimp only at hc; omega) | skip)
     | ((with_reducible show CallEv _ _ 49 _ _ _ _ _); refine callF [] (fun y : Tr => y.v) (fun y w2 => TrIn y w2 ∧ y.d = thD) (fun β w' _ hbw => Three_ok w') ?_; intro y)
     | ((with_reducible show CallEv _ _ 34 _ _ _ _ _); refine callE (k := 34) (fun β w' hbw => h34k _ w' hbw.2) ?_)
   all_goals first | (exfalso; omega) | exact ⟨1, by decide, by decide, Ent.weak rfl ⟨rfl, rfl, rfl, rfl, trivial⟩ ⟨rfl, rfl, trivial⟩ fun w2 h => (by repeat (first | exact h | replace h := h.1))⟩
 · have h34k : ∀ (y : Tr) w', TrIn y w' ∧ y.d = thD → Calls Try.prog 34 #[y.v, iv 2, iv 3] w' fun e w2 => e = .returned (.tuple #[iv 90, iv 0]) ∧ Below w'.heap.size w' w2 := h34 1 (by decide)
   repeat'
    conv => whnf
    first
     | refine zA ?_ | refine zB ?_ | refine zC ?_ | refine zD ?_ | refine zE ?_ | refine zF ?_ | refine zG ?_ | refine zH ?_ | refine zJ ?_ | refine zI ?_ | refine splT ?_ | refine splF ?_ | refine splNot ?_
     | ((first | refine splIn ?_ ?_ | refine splD ?_ ?_ | refine splE ?_ ?_ | refine splNE ?_ ?_) <;> intro hc <;> first | (exfalso; omega) | (exfalso; dsimp only at hc; omega) | skip)
     | ((with_reducible show CallEv _ _ 49 _ _ _ _ _); refine callF [] (fun y : Tr => y.v) (fun y w2 => TrIn y w2 ∧ y.d = thD) (fun β w' _ hbw => Three_ok w') ?_; intro y)
     | ((with_reducible show CallEv _ _ 34 _ _ _ _ _); refine callE (k := 34) (fun β w' hbw => h34k _ w' hbw.2) ?_)
   all_goals first | (exfalso; omega) | exact ⟨2, by decide, by decide, Ent.weak rfl ⟨rfl, rfl, rfl, rfl, trivial⟩ ⟨rfl, rfl, trivial⟩ fun w2 h => (by repeat (first | exact h | replace h := h.1))⟩
 · have h34k : ∀ (y : Tr) w', TrIn y w' ∧ y.d = thD → Calls Try.prog 34 #[y.v, iv 2, iv 4] w' fun e w2 => e = .returned (.tuple #[iv 90, iv 0]) ∧ Below w'.heap.size w' w2 := h34 2 (by decide)
   repeat'
    conv => whnf
    first
     | refine zA ?_ | refine zB ?_ | refine zC ?_ | refine zD ?_ | refine zE ?_ | refine zF ?_ | refine zG ?_ | refine zH ?_ | refine zJ ?_ | refine zI ?_ | refine splT ?_ | refine splF ?_ | refine splNot ?_
     | ((first | refine splIn ?_ ?_ | refine splD ?_ ?_ | refine splE ?_ ?_ | refine splNE ?_ ?_) <;> intro hc <;> first | (exfalso; omega) | (exfalso; dsimp only at hc; omega) | skip)
     | ((with_reducible show CallEv _ _ 49 _ _ _ _ _); refine callF [] (fun y : Tr => y.v) (fun y w2 => TrIn y w2 ∧ y.d = thD) (fun β w' _ hbw => Three_ok w') ?_; intro y)
     | ((with_reducible show CallEv _ _ 34 _ _ _ _ _); refine callE (k := 34) (fun β w' hbw => h34k _ w' hbw.2) ?_)
   all_goals first | (exfalso; omega) | exact ⟨3, by decide, by decide, Ent.weak rfl ⟨rfl, rfl, rfl, rfl, trivial⟩ ⟨rfl, rfl, trivial⟩ fun w2 h => (by repeat (first | exact h | replace h := h.1))⟩
 · have h34k : ∀ (y : Tr) w', TrIn y w' ∧ y.d = thD → Calls Try.prog 34 #[y.v, iv 2, iv 5] w' fun e w2 => e = .returned (.tuple #[iv 150, iv 0]) ∧ Below w'.heap.size w' w2 := h34 3 (by decide)
   repeat'
    conv => whnf
    first
     | refine zA ?_ | refine zB ?_ | refine zC ?_ | refine zD ?_ | refine zE ?_ | refine zF ?_ | refine zG ?_ | refine zH ?_ | refine zJ ?_ | refine zI ?_ | refine splT ?_ | refine splF ?_ | refine splNot ?_
     | ((first | refine splIn ?_ ?_ | refine splD ?_ ?_ | refine splE ?_ ?_ | refine splNE ?_ ?_) <;> intro hc <;> first | (exfalso; omega) | (exfalso; dsimp only at hc; omega) | skip)
     | ((with_reducible show CallEv _ _ 49 _ _ _ _ _); refine callF [] (fun y : Tr => y.v) (fun y w2 => TrIn y w2 ∧ y.d = thD) (fun β w' _ hbw => Three_ok w') ?_; intro y)
     | ((with_reducible show CallEv _ _ 34 _ _ _ _ _); refine callE (k := 34) (fun β w' hbw => h34k _ w' hbw.2) ?_)
   all_goals first | (exfalso; omega) | exact ⟨4, by decide, by decide, Ent.weak rfl ⟨rfl, rfl, rfl, rfl, trivial⟩ ⟨rfl, rfl, trivial⟩ fun w2 h => (by repeat (first | exact h | replace h := h.1))⟩
 · skip
   repeat'
    conv => whnf
    first
     | refine zA ?_ | refine zB ?_ | refine zC ?_ | refine zD ?_ | refine zE ?_ | refine zF ?_ | refine zG ?_ | refine zH ?_ | refine zJ ?_ | refine zI ?_ | refine splT ?_ | refine splF ?_ | refine splNot ?_
     | ((first | refine splIn ?_ ?_ | refine splD ?_ ?_ | refine splE ?_ ?_ | refine splNE ?_ ?_) <;> intro hc <;> first | (exfalso; omega) | (exfalso; dsimp only at hc; omega) | skip)
   all_goals first | (exfalso; omega) | exact ⟨rfl, (), trivial, Ent.weak rfl ⟨rfl, trivial⟩ ⟨rfl, trivial⟩ fun w2 h => h⟩
set_option maxHeartbeats 8000000 in
set_option maxRecDepth 100000 in
theorem Nm7 (w : World) (h10 : VC Try.prog (rest 3 (rest 1 (rest 6 body14))) ⟨196, [(1, .sl 0 0 2 2), (15, .v (iv 2)), (17, .v (iv 2)), (19, .v (iv 9))], [(0, .cells [.v (iv 1), .v (iv 1), .v (iv 3), .v (iv 2), .v (iv 5), .v (iv 6)] 96)], 1, fun w2 => Below w.heap.size w w2, z0⟩ (endΦ env Try.f14 fun s σ => (∀ β, s.c β = .bool true) ∧ ∀ w', σ.h w' → Below w.heap.size w w')) :
 VC Try.prog (rest 1 (rest 6 body14)) ⟨196, [(1, .sl 0 0 2 2)], [(0, .cells [.v (iv 1), .v (iv 1), .v (iv 3), .v (iv 2), .v (iv 5), .v (iv 6)] 96)], 1, fun w2 => Below w.heap.size w w2, z0⟩ (endΦ env Try.f14 fun s σ => (∀ β, s.c β = .bool true) ∧ ∀ w', σ.h w' → Below w.heap.size w w') := by
 have h34 : ∀ (y : Tr) w', TrIn y w' ∧ y.d = thD → Calls Try.prog 34 #[y.v, iv 0, iv 1] w' fun e w2 => e = .returned (.tuple #[iv 0, iv 2]) ∧ Below w'.heap.size w' w2 := fun y w' h => by
  have := Day_ok y 0 1 w' h.1
  rw [h.2, nm_d0] at this
  exact this
 have h35 : ∀ (y : Tr) w', TrIn y w' ∧ y.d = thD → Calls Try.prog 35 #[y.v, iv 0, iv 4] w' fun e w2 => e = .returned (.tuple #[iv 0, iv 2]) ∧ Below w'.heap.size w' w2 := fun y w' h => by
  have := Lost_ok y 0 4 w' h.1
  rw [h.2, nm_l0] at this
  exact this
 have h42 : ∀ (y : Tr) b w', TrIn y w' ∧ y.d = thD → w'.heap[b]? = some (.cells (([(1, 0, 0)] : List (Int × Int × Int)).flatMap spF).toArray 96 (0, 0)) → Calls Try.prog 42 #[y.v, .slice (some ⟨b, 0, none⟩) 1 1] w' fun e w2 => e = .returned (.tuple #[iv 0, iv 9]) ∧ Below w'.heap.size w' w2 := fun y b w' h hb => by
  have := Profit_ok y (some ⟨b, 0, none⟩) 1 [(1, 0, 0)] w' h.1 ⟨Rd.of_cells (f := spF) (fun _ => rfl) rfl hb, by decide, by decide, by decide⟩
  rw [h.2, nm_pf1] at this
  exact this
 refine VC.cutH env mixed 3 1 (fun _ : Unit => [(1, .sl 0 0 2 2), (15, .v (iv 2)), (17, .v (iv 2)), (19, .v (iv 9))]) (fun _ => [(0, .cells [.v (iv 1), .v (iv 1), .v (iv 3), .v (iv 2), .v (iv 5), .v (iv 6)] 96)]) (fun _ w2 => Below w.heap.size w w2) (fun _ => True) (fun _ _ => ⟨rfl, rfl⟩) ?_ (fun _ _ => h10)
 clear h10
 repeat'
  conv => whnf
  first
   | refine zA ?_ | refine zB ?_ | refine zC ?_ | refine zD ?_ | refine zE ?_ | refine zF ?_ | refine zG ?_ | refine zH ?_ | refine zJ ?_ | refine zI ?_ | refine splT ?_ | refine splF ?_ | refine splNot ?_
   | ((first | refine splIn ?_ ?_ | refine splD ?_ ?_ | refine splE ?_ ?_ | refine splNE ?_ ?_) <;> intro hc <;> first | (exfalso; omega) | (exfalso; dsimp only at hc; omega) | skip)
   | ((with_reducible show CallEv _ _ 49 _ _ _ _ _); refine callF [] (fun y : Tr => y.v) (fun y w2 => TrIn y w2 ∧ y.d = thD) (fun β w' _ hbw => Three_ok w') ?_; intro y)
   | ((with_reducible show CallEv _ _ 34 _ _ _ _ _); refine callE (k := 34) (fun β w' hbw => h34 _ w' hbw.2) ?_)
   | ((with_reducible show CallEv _ _ 35 _ _ _ _ _); refine callE (k := 35) (fun β w' hbw => h35 _ w' hbw.2) ?_)
   | ((with_reducible show CallEv _ _ 42 _ _ _ _ _); refine callM [1] (fun β w' hbk hbw => h42 _ (β 1) w' hbw.2 (hbk 1 (by simp) _ rfl)) ?_)
 all_goals first | (exfalso; omega) | exact ⟨rfl, (), trivial, Ent.weak rfl ⟨rfl, rfl, rfl, rfl, trivial⟩ ⟨rfl, trivial⟩ fun w2 h => (by repeat (first | exact h | replace h := h.1))⟩
theorem c14_10 : rest 3 (rest 1 (rest 6 body14)) = .seq (.region 17 (hdO (rest 3 (rest 1 (rest 6 body14)))) true) (rest 11 body14) := by kernel_rfl
set_option maxHeartbeats 8000000 in
set_option maxRecDepth 100000 in
theorem Nm10 (w : World) (h11 : VC Try.prog (rest 11 body14) ⟨196, [(1, .sl 0 0 2 2), (15, .v (iv 2)), (17, .v (iv 2)), (19, .v (iv 9)), (21, .v (iv 3))], [(0, .cells [.v (iv 1), .v (iv 1), .v (iv 3), .v (iv 2), .v (iv 5), .v (iv 6)] 96)], 1, fun w2 => Below w.heap.size w w2, z0⟩ (endΦ env Try.f14 fun s σ => (∀ β, s.c β = .bool true) ∧ ∀ w', σ.h w' → Below w.heap.size w w')) :
 VC Try.prog (rest 3 (rest 1 (rest 6 body14))) ⟨196, [(1, .sl 0 0 2 2), (15, .v (iv 2)), (17, .v (iv 2)), (19, .v (iv 9))], [(0, .cells [.v (iv 1), .v (iv 1), .v (iv 3), .v (iv 2), .v (iv 5), .v (iv 6)] 96)], 1, fun w2 => Below w.heap.size w w2, z0⟩ (endΦ env Try.f14 fun s σ => (∀ β, s.c β = .bool true) ∧ ∀ w', σ.h w' → Below w.heap.size w w') := by
 have h49 := fun w' => Three_ok w'
 have h42 : ∀ (y : Tr) (β : Nat → Nat) w', TrIn y w' ∧ y.d = thD → (Blk.own 2 21 3 (nmZ.flatMap spF) 96).ok β w' (β 1) → Calls Try.prog 42 #[y.v, .slice (some ⟨β 1, 0, none⟩) 21 (β 2)] w' fun e w2 => ∃ _ : Unit, e = .returned (.tuple #[iv 0, iv 3]) ∧ Below w'.heap.size w' w2 ∧ St w'.heap.size (fun _ => True) w2 := fun y β w' h hb => by
  have h2 : w'.ownsRow 0 96 3 (.slice (some ⟨β 1, 0, none⟩) 21 (β 2)) 21 (nmZ.flatMap spF) := hb
  have h3 : 21 ≤ β 2 := by
   rcases h2.2 with ⟨h', _⟩ | ⟨g, cap, cur, q0, q1, q2, q3, _⟩
   · cases h'
   · simp only [Value.slice.injEq] at q0
     obtain ⟨_, _, q0⟩ := q0
     omega
  have := Profit_ok y (some ⟨β 1, 0, none⟩) (β 2) nmZ w' h.1 ⟨Rd.of_owns (sz := 3) (f := spF) (fun _ => rfl) rfl rfl h2, by decide, h3, by decide⟩
  rw [h.2, nm_pf2] at this
  exact this.mono fun e w2 h => ⟨(), h.1, h.2, fun _ _ => trivial⟩
 rw [c14_10]
 refine VC.seq (f := fun σ' => Ent σ' ⟨196, [(1, .sl 0 0 2 2), (15, .v (iv 2)), (17, .v (iv 2)), (19, .v (iv 9)), (21, .v (iv 3))], [(0, .cells [.v (iv 1), .v (iv 1), .v (iv 3), .v (iv 2), .v (iv 5), .v (iv 6)] 96)], 1, fun w2 => Below w.heap.size w w2, z0⟩) ?_ (fun σ' hz => VC.ent h11 hz (okB rfl rfl rfl))
 clear h11
 apply VC_reg2 env mixed 0 2 (fun y : Tr => y.v) (fun y w2 => TrIn y w2 ∧ y.d = thD) (fun _ : Unit => .tuple #[iv 0, iv 3]) (fun _ _ => True) ⟨0, 0, 0, none, 0, [], none, 0, []⟩ ()
 case h12 => decide
 case h3 => exact Nat.le_of_ble_eq_true (by kernel_rfl)
 case hd12 => kernel_rfl
 case hv =>
  intro y _
  repeat'
   conv => whnf
   first
    | refine zA ?_ | refine zB ?_ | refine zC ?_ | refine zD ?_ | refine zE ?_ | refine zF ?_ | refine zG ?_ | refine zH ?_ | refine zJ ?_ | refine zI ?_ | refine splT ?_ | refine splF ?_ | refine splNot ?_
    | ((first | refine splIn ?_ ?_ | refine splD ?_ ?_ | refine splE ?_ ?_ | refine splNE ?_ ?_) <;> intro hc <;> first | (exfalso; omega) | (exfalso; dsimp only at hc; omega) | skip)
    | refine And.intro (a := (_ : Bool) = true ∧ (_ : List _) = [] ∧ (_ : List _) = []) ⟨rfl, rfl, rfl⟩ ?_
    | (with_reducible show FamEv _ _ _ 49 _ _ _); refine FamEv.mk [] (fun β w' _ hbw => h49 w') ?_
    | (with_reducible show FamEv _ _ _ 42 _ _ _); refine FamEv.mk [1] (fun β w' hbk hbw => h42 y β w' hbw.2 (hbk 1 (by simp) _ rfl)) ?_
    | refine mkO env 1 21 (nmZ.flatMap spF) rfl rfl rfl (by decide) rfl (by decide) (by decide) rfl rfl ?_
  refine ⟨?_, Ent.weak rfl ⟨rfl, rfl, rfl, rfl, rfl, trivial⟩ ⟨rfl, trivial⟩ fun w2 h => h.1.1⟩
  simp only [List.nil_append, List.cons_append, List.append_assoc]
  exact rfl
 case hk1 => intros; rfl
 case hk2 => intros; rfl
 case hi1 => exact fun _ _ _ => ⟨Or.inl (by kernel_rfl), Or.inr rfl, Or.inl (by kernel_rfl), Or.inl (by kernel_rfl), Or.inl (by kernel_rfl), Or.inl (by kernel_rfl), Or.inl (by kernel_rfl), Or.inl (by kernel_rfl), trivial⟩
 case hi2 => exact fun _ _ _ => ⟨Or.inr rfl, Or.inr rfl, Or.inl (by kernel_rfl), Or.inl (by kernel_rfl), Or.inl (by kernel_rfl), Or.inl (by kernel_rfl), Or.inl (by kernel_rfl), Or.inl (by kernel_rfl), trivial⟩
set_option maxHeartbeats 8000000 in
set_option maxRecDepth 100000 in
theorem Nm11 (w : World) : VC Try.prog (rest 11 body14) ⟨196, [(1, .sl 0 0 2 2), (15, .v (iv 2)), (17, .v (iv 2)), (19, .v (iv 9)), (21, .v (iv 3))], [(0, .cells [.v (iv 1), .v (iv 1), .v (iv 3), .v (iv 2), .v (iv 5), .v (iv 6)] 96)], 1, fun w2 => Below w.heap.size w w2, z0⟩ (endΦ env Try.f14 fun s σ => (∀ β, s.c β = .bool true) ∧ ∀ w', σ.h w' → Below w.heap.size w w') := by
 have h28 : ∀ (y : Tr) b w', TrIn y w' ∧ y.d = thD → w'.heap[b]? = some (.cells (([1, 0, 0, 0] : List Int).flatMap iF).toArray 3 (0, 0)) → Calls Try.prog 28 #[y.v, .slice (some ⟨b, 0, none⟩) 4 4] w' fun e w2 => e = .returned (.tuple #[iv 0, .slice none 0 0, iv 1]) ∧ Below w'.heap.size w' w2 := fun y b w' h hb => by
  have hl := nm_t y h.2
  exact Bound_no y (some ⟨b, 0, none⟩) 4 [1, 0, 0, 0] w' h.1 (Rd.of_cells (f := iF) (fun _ => rfl) rfl hb) (by decide) (by rw [hl.1, nm_fe, Bool.and_false])
 have h46 : ∀ (y : Tr) (β : Nat → Nat) w', TrIn y w' ∧ y.d = thD → (Blk.cells [.v (iv 1), .v (iv 1), .v (iv 3), .v (iv 2), .v (iv 5), .v (iv 6)] 96).ok β w' (β 0) → Calls Try.prog 46 #[y.v, .slice (some ⟨β 0, 0, none⟩) 2 2, iv 2] w' fun e w2 => ∃ z : Option Addr × Nat, e = .returned (.tuple #[sV 0 z, iv 0, iv 2]) ∧ Below w'.heap.size w' w2 ∧ St w'.heap.size (fun _ => True) w2 := fun y β w' h hb => by
  have := Replace_ok y (some ⟨β 0, 0, none⟩) 2 nmB 2 w' h.1 (nm_sp β w' 0 hb)
  rw [h.2, nm_rp2] at this
  exact this.mono fun e w2 ⟨z, e1, e2, e3⟩ => ⟨z, e1, e2, fun _ _ => trivial⟩
 have h42 : ∀ (y : Tr) w', TrIn y w' ∧ y.d = thD → Calls Try.prog 42 #[y.v, .slice none 0 0] w' fun e w2 => e = .returned (.tuple #[iv 0, iv 0]) ∧ Below w'.heap.size w' w2 := fun y w' h => by
  have := Profit_ok y none 0 [] w' h.1 ⟨.inl ⟨rfl, rfl⟩, by simp, by simp, fun s hs => by cases hs⟩
  rw [h.2, nm_pf3] at this
  exact this
 have h36 : ∀ w', Calls Try.prog 36 #[.agg #[iv 0, iv 0, iv 0, .slice none 0 0, .slice none 0 0]] w' fun e w2 => e = .returned (iv 1) ∧ Below w'.heap.size w' w2 := fun w' =>
  CheckTour_ok ⟨0, 0, 0, none, 0, [], none, 0, []⟩ w' ⟨.inl ⟨rfl, rfl⟩, fun t ht => (by cases ht), .inl ⟨rfl, rfl⟩, fun r hr => (by cases hr), by simp, by simp, fun r hr => (by cases hr), by simp⟩
 refine VC.of env mixed ?_
 repeat'
  conv => whnf
  first
   | refine zA ?_ | refine zB ?_ | refine zC ?_ | refine zD ?_ | refine zE ?_ | refine zF ?_ | refine zG ?_ | refine zH ?_ | refine zJ ?_ | refine zI ?_ | refine splT ?_ | refine splF ?_ | refine splNot ?_
   | ((first | refine splIn ?_ ?_ | refine splD ?_ ?_ | refine splE ?_ ?_ | refine splNE ?_ ?_) <;> intro hc <;> first | (exfalso; omega) | (exfalso; dsimp only at hc; omega) | skip)
   | ((with_reducible show CallEv _ _ 49 _ _ _ _ _); refine callF [] (fun y : Tr => y.v) (fun y w2 => TrIn y w2 ∧ y.d = thD) (fun β w' _ hbw => Three_ok w') ?_; intro y)
   | ((with_reducible show CallEv _ _ 28 _ _ _ _ _); refine callM [1] (fun β w' hbk hbw => h28 _ (β 1) w' hbw.2 (hbk 1 (by simp) _ rfl)) ?_)
   | ((with_reducible show CallEv _ _ 46 _ _ _ _ _); refine callF [0] (fun z : Option Addr × Nat => .tuple #[sV 0 z, iv 0, iv 2]) (fun _ _ => True) (fun β w' hbk hbw => h46 _ β w' hbw.2 (hbk 0 (by simp) _ rfl)) ?_; intro z)
   | ((with_reducible show CallEv _ _ 42 _ _ _ _ _); refine callE (k := 42) (fun β w' hbw => h42 _ w' hbw.2) ?_)
   | ((with_reducible show CallEv _ _ 36 _ _ _ _ _); refine callE (k := 36) (fun β w' hbw => h36 w') ?_)
   | ((with_reducible show CallEv _ _ 19 _ _ _ _ _); refine callE (k := 19) (fun β w' hbw => awake_ok w') ?_)
 all_goals first | (exfalso; omega) | exact ⟨fun β => rfl, fun w' h => (by repeat (first | exact h | replace h := h.1))⟩
theorem RouteNames_ok (w : World) : Calls Try.prog 14 #[] w fun e w' => e = .returned (.bool true) ∧ Below w.heap.size w w' :=
 calls_valV env mixed Try.func14 has14 Try.ntmps14 [] (by simp) (Nm0 w fun z t => Nm5 w z t (Nm6 w (Nm7 w (Nm10 w (Nm11 w)))))
end Go.Proofs.Ythfabodamhdhaaa
