/- Part 3 of the proof: texts merged. -/
import Derived.Test.YtfbokllafdnglaaRGb
namespace Go.Proofs.Ytfbokllafdnglaa
open Go Tx Go.RowKit
set_option linter.unusedSimpArgs false
set_option linter.unusedVariables false
def rowsB (F : Fr) : Prop := (∀ j, rwB (F.p j)) ∧ (∀ j k, rwB (F.h j k)) ∧ (∀ j a, rwB (F.u j a))
structure FrB (BB : List Bm) (LL : List Ld) : Prop where
 ld : ∀ k, k ≤ LL.length → rowsB (ldsF LL k)
 b0 : ∀ k, k ≤ BB.length → rowsB (bmsF BB (ldsF LL LL.length) k)
 b1 : ∀ k i b, BB[i]? = some b → i + k + 1 = BB.length → rwB (wtR b) ∧ ∀ a, a ≤ 61 → rowsB (hgF b i (putU (bmsF BB (ldsF LL LL.length) k) i 30 (wtR b)) a)
 b2 : ∀ k i b, BB[i]? = some b → i + k + 1 = BB.length → ∀ a : Nat, a < 61 → rwB (lft b.lo b.hi a ((hgF b i (putU (bmsF BB (ldsF LL LL.length) k) i 30 (wtR b)) a).u i a)) ∧ rwB (rgt b.lo b.hi a ((hgF b i (putU (bmsF BB (ldsF LL LL.length) k) i 30 (wtR b)) a).u i a))
 b3 : ∀ k i b, BB[i]? = some b → i + k + 1 = BB.length → rowsB (putF (bmG b i (bmsF BB (ldsF LL LL.length) k)) b.ab b.aa ((bmG b i (bmsF BB (ldsF LL LL.length) k)).h i 0))
theorem rowsB.tgt {F : Fr} (h : rowsB F) (b a : Int) : rwB (tgt F b a) := by
 unfold Go.Proofs.Ytfbokllafdnglaa.tgt
 split
 · exact h.1 _
 · exact h.2.2 _ _
structure FrA where
 fb : Nat
 pb : Nat
 pc : Nat
 hb : Nat
 hc : Nat
 ub : Nat
 uc : Nat
abbrev hgV (z : Row × Row) : List Value := rwL z.1 ++ rwL z.2
structure FrIn (r : Rig) (n m : Nat) (F : Fr) (y : FrA) (w : World) : Prop where
 c : ∀ j v, [Value.slice r.po r.pn r.pc, .slice r.bo r.bn r.bc, iv r.f0, iv r.f1, iv r.f2, .slice r.lo r.ln r.lc, .slice (some ⟨y.pb, 0, none⟩) n y.pc, .slice (some ⟨y.hb, 0, none⟩) m y.hc, .slice (some ⟨y.ub, 0, none⟩) m y.uc][j]? = some v → w.cell? ((⟨y.fb, 0, none⟩ : Addr).add j) = some v
 p : Rd 21 rwL (.slice (some ⟨y.pb, 0, none⟩) n y.pc) ((List.range n).map F.p) w
 h : Rd 42 hgV (.slice (some ⟨y.hb, 0, none⟩) m y.hc) ((List.range m).map fun j => (F.h j 0, F.h j 1)) w
theorem replK_mk : ∀ (l ys : List SV) {K : List SV → Prop}, ys.length ≤ l.length → K (ys ++ l.drop ys.length) → replK l ys K
 | l, [], K, _, h => by cases l <;> exact (by simpa using h : K _)
 | [], y :: ys, K, hl, _ => by simp at hl
 | x :: l, y :: ys, K, hl, h => by
  show replK l ys fun l => K (y :: l)
  exact replK_mk l ys (by simpa using hl) (by simpa using h)
theorem splK_mk : ∀ (n : Nat) (l ys : List SV) {K : List SV → Prop}, n + ys.length ≤ l.length → K (l.take n ++ ys ++ l.drop (n + ys.length)) → splK n l ys K
 | 0, l, ys, K, hl, h => replK_mk l ys (by omega) (by simpa using h)
 | n + 1, [], ys, K, hl, _ => by simp at hl
 | n + 1, x :: l, ys, K, hl, h => splK_mk n l ys (by simp at hl; omega) (by
  rw [Nat.succ_add] at h
  simpa using h)
theorem splK_to {n : Nat} {l ys l' : List SV} {K : List SV → Prop} (hl : n + ys.length ≤ l.length) (he : l.take n ++ ys ++ l.drop (n + ys.length) = l') (h : K l') : splK n l ys K := splK_mk n l ys hl (he ▸ h)
theorem unit_cells {k : Nat} (hk : k < 21) : (rwS zr).take k ++ [.v (iv 216000)] ++ (rwS zr).drop (k + 1) = rwS (unitR k) := by
 rcases m22 (show k ≤ 21 by omega) with rfl | rfl | rfl | rfl | rfl | rfl | rfl | rfl | rfl | rfl | rfl | rfl | rfl | rfl | rfl | rfl | rfl | rfl | rfl | rfl | rfl | rfl
 all_goals first | rfl | (exfalso; omega)
theorem unit_bd (k : Nat) : rwB (unitR k) := fun i => by
 unfold unitR
 cases Nat.beq i k <;> simp
theorem normK_mk : ∀ (l : List SV) {K : List SV → Prop}, K l → normK l K
 | [], _, h => h
 | x :: r, K, h => by
  show normK r fun l => K (x :: l)
  exact normK_mk r h
theorem sub_row {C : List Value} {x : Row} {o : Nat} (h : ∀ j v, (rwL x)[j]? = some v → C[o + j]? = some v) : ((C.map SV.v).drop o).take 21 = rwS x := by
 have h1 : (C.drop o).take 21 = rwL x := by
  refine List.ext_getElem? fun j => ?_
  rw [List.getElem?_take]
  split
  · rename_i hj
    have hj2 : j < (rwL x).length := hj
    rw [List.getElem?_drop, h j _ (List.getElem?_eq_getElem hj2), List.getElem?_eq_getElem hj2]
  · rename_i hj
    exact (List.getElem?_eq_none (by show 21 ≤ j; omega)).symm
 rw [← List.map_drop, ← List.map_take, h1]
 rfl
theorem hgF_u (b : Bm) (i : Nat) (F : Fr) : ∀ a, (hgF b i F a).u = F.u
 | 0 => rfl
 | a + 1 => hgF_u b i F a
theorem hasB_mono {pn : Nat} {b a n n' : Int} (h : hasB pn b a n = true) (hn : n ≤ n') : hasB pn b a n' = true := by
 unfold hasB at *
 split
 · rename_i hb; rw [if_pos hb] at h; exact h
 · rename_i hb
   rw [if_neg hb, Bool.and_eq_true, inB_iff, inB_iff] at h
   rw [Bool.and_eq_true, inB_iff, inB_iff]
   omega
theorem put_h (F : Fr) (b a : Int) (x : Row) : (putF F b a x).h = F.h := by unfold putF; split <;> rfl
theorem hgs_put (m : Nat) (F : Fr) (b a : Int) (x : Row) : hgsL m (putF F b a x) = hgsL m F := by unfold hgsL; rw [put_h]
theorem bmsOk_all {pn : Nat} : ∀ {BB : List Bm} {ds : List Int}, bmsOk pn ds BB = true → ∀ (i : Nat) b, BB[i]? = some b → bmOk pn ((ds.length : Int) + i) b = true
 | [], _, _, i, b, h => by simp at h
 | c :: r, ds, h, 0, b, hb => by
  rw [bmsOk, Bool.and_eq_true, Bool.and_eq_true] at h
  simp only [List.getElem?_cons_zero, Option.some.injEq] at hb
  subst hb
  simpa using h.1.1
 | c :: r, ds, h, i + 1, b, hb => by
  rw [bmsOk, Bool.and_eq_true, Bool.and_eq_true] at h
  have := bmsOk_all h.2 i b (by simpa using hb)
  rw [List.length_append] at this
  rw [show (ds.length : Int) + ((i + 1 : Nat) : Int) = ((ds.length + [dB c ds].length : Nat) : Int) + (i : Int) from by simp; omega]
  exact this
theorem spanB_bd {b : Bm} (h : spanB b = true) : 1 ≤ b.hi - b.lo ∧ b.hi - b.lo ≤ 60 := by
 unfold spanB spL at h
 rw [List.contains_iff_mem] at h
 simp only [List.mem_cons, List.not_mem_nil, or_false] at h
 omega
theorem hasB_own {pn i m : Nat} (h : i < m) : hasB pn i 30 m = true := by
 unfold hasB
 rw [if_neg (by omega), Bool.and_eq_true, inB_iff, inB_iff]
 omega
theorem frIn_of {β : Nat → Nat} {r : Rig} {n m : Nat} {F : Fr} {w2 : World} (h7 : (Blk.cells (frC r n m) 146).ok β w2 (β 7)) (h1 : (Blk.own 2 n 21 (ptsL n F) 118).ok β w2 (β 1)) (h3 : (Blk.own 4 m 42 (hgsL m F) 148).ok β w2 (β 3)) :
 FrIn r n m F ⟨β 7, β 1, β 2, β 3, β 4, β 5, β 6⟩ w2 := by
 refine ⟨fun j v hj => ?_, Rd.of_owns (sz := 21) (f := rwL) (fun _ => rfl) ?_ (by simp) h1, Rd.of_owns (sz := 42) (f := hgV) (fun _ => rfl) ?_ (by simp) h3⟩
 · rw [own_add, Nat.zero_add, cell_of_row w2 (β 7) j _ 146 (0, 0) h7, List.getElem?_toArray]
   exact hj
 · rw [List.flatMap_map]; rfl
 · rw [List.flatMap_map]
   refine fm_congr fun j _ => ?_
   show rwL (F.h j 0) ++ (rwL (F.h j 1) ++ []) = _
   rw [List.append_nil]
set_option maxHeartbeats 16000000 in
set_option maxRecDepth 100000 in
theorem frame_ok (r : Rig) (PP : List Int) (BB : List Bm) (LL : List Ld) (w : World) (h : RigIn r PP BB LL w) (hr : rigOk r.f0 r.f1 r.f2 PP BB LL = true) (hG : FrB BB LL) :
 Calls Try.prog 28 #[r.v] w fun e w' => ∃ y : FrA, e = .returned (.pointer (some ⟨y.fb, 0, none⟩)) ∧ Below w.heap.size w w' ∧ St w.heap.size (FrIn r PP.length BB.length (frF BB LL) y) w' := by
 obtain ⟨po, pn, pc, bo, bn, bc, f0, f1, f2, lo, ln, lc⟩ := r
 obtain ⟨hP, hB, hL, rfl, rfl, rfl, l1, l2, l3⟩ := h
 dsimp only at hP hB hL l1 l2 l3 hr ⊢
 rw [rigOk_iff] at hr
 obtain ⟨q1, q2, q3, q4, q5, q6, q7⟩ := hr
 refine calls_fam env mixed Try.func28 has28 Try.ntmps28 [.agg #[.slice po PP.length pc, .slice bo BB.length bc, iv f0, iv f1, iv f2, .slice lo LL.length lc]] (by simp) ?_
 repeat'
  conv => whnf
  first
   | refine zA ?_ | refine zB ?_ | refine zC ?_ | refine zD ?_ | refine zE ?_ | refine zF ?_ | refine zG ?_ | refine zH ?_ | refine zI ?_ | refine splT ?_ | refine splF ?_ | refine splNot ?_
   | ((first | refine splIn ?_ ?_ | refine splD ?_ ?_ | refine splE ?_ ?_ | refine splNE ?_ ?_) <;> intro hc <;> first | (exfalso; omega) | (exfalso; dsimp only at hc; omega) | skip)
   | refine mkO env 1 PP.length (ptsL PP.length F0) rfl rfl rfl (by decide) rfl (by omega) (by decide) (pts0 _) rfl ?_
   | refine mkO env 3 BB.length (hgsL BB.length F0) rfl rfl rfl (by decide) rfl (by omega) (by decide) (hgs0 _) rfl ?_
   | refine mkO env 5 BB.length (hngL BB.length F0) rfl rfl rfl (by decide) rfl (by omega) (by decide) (hng0 _) rfl ?_
 refine loopN 9 (fun k : Nat => [(3, .ptr 8 0), (30, .v (.slice lo LL.length lc)), (31, .v (iv LL.length)), (32, .v (iv k))])
  (fun k => [(7, .cells [.v (.slice po PP.length pc), .v (.slice bo BB.length bc), .v (iv f0), .v (iv f1), .v (iv f2), .v (.slice lo LL.length lc), .os 1 2 PP.length, .os 3 4 BB.length, .os 5 6 BB.length] 146), (1, .own 2 PP.length 21 (ptsL PP.length (ldsF LL k)) 118), (3, .own 4 BB.length 42 (hgsL BB.length (ldsF LL k)) 148), (5, .own 6 BB.length 1281 (hngL BB.length (ldsF LL k)) 159), (8, .cells [.ptr 7 0] 115)])
  (fun k => k ≤ LL.length) (fun k => LL.length - k) 0 (Nat.zero_le _) ⟨rfl, rfl, rfl, rfl, trivial⟩ ⟨rfl, rfl, rfl, rfl, rfl, trivial⟩ (fun _ _ => ⟨rfl, rfl⟩) ?_
 intro k hk
 rcases Nat.lt_or_ge k LL.length with hkl | hkl
 · obtain ⟨l, hb⟩ : ∃ b, LL[k]? = some b := ⟨_, List.getElem?_eq_getElem hkl⟩
   obtain ⟨_, ad, rfl, _⟩ := hL.ptr (by omega)
   have e0 := fun (w' : World) hw' => rd_ati (hL.below (w' := w') hw') hb
   have hlo := List.all_eq_true.1 q7 l (List.mem_of_getElem? hb)
   rw [ldOk_iff] at hlo
   have hst : ldsF LL (k + 1) = putF (ldsF LL k) l.beam l.at' (unitR k) := by rw [ldsF, hb]
   have hg := hG.ld k hk
   generalize ldsF LL k = F at *
   obtain ⟨lb, la, lk', ll, lh⟩ := l
   dsimp only at hlo hst
   repeat'
    conv => whnf
    first
     | refine zA ?_ | refine zB ?_ | refine zC ?_ | refine zD ?_ | refine zE ?_ | refine zF ?_ | refine zG ?_ | refine zH ?_ | refine zI ?_ | refine splT ?_ | refine splF ?_ | refine splNot ?_
     | ((first | refine splIn ?_ ?_ | refine splD ?_ ?_ | refine splE ?_ ?_ | refine splNE ?_ ?_) <;> intro hc <;> first | (exfalso; omega) | (exfalso; dsimp only at hc; omega) | skip)
     | refine Exists.intro (α := List Value) [iv lb, iv la, .int .u8 lk', iv ll, iv lh] ⟨⟨rfl, fun w' hw' => e0 w' hw'⟩, ?_⟩
   refine splK_to (l' := rwS (unitR k)) ?_ ?_ ?_
   · rw [Int.toNat_natCast]
     show 0 + k * 1 + 1 ≤ 21
     omega
   · rw [Int.toNat_natCast]
     show (rwS zr).take (0 + k * 1) ++ [.v (iv 216000)] ++ (rwS zr).drop (0 + k * 1 + 1) = _
     rw [Nat.zero_add, Nat.mul_one]
     exact unit_cells (by omega)
   repeat'
    conv => whnf
    first
     | refine zA ?_ | refine zB ?_ | refine zC ?_ | refine zD ?_ | refine zE ?_ | refine zF ?_ | refine zG ?_ | refine zH ?_ | refine zI ?_ | refine splT ?_ | refine splF ?_ | refine splNot ?_
     | ((first | refine splIn ?_ ?_ | refine splD ?_ ?_ | refine splE ?_ ?_ | refine splNE ?_ ?_) <;> intro hc <;> first | (exfalso; omega) | (exfalso; dsimp only at hc; omega) | skip)
     | ((with_reducible show CallEv _ _ 65 _ _ _ _ _); refine callPut ⟨po, PP.length, pc, bo, BB.length, bc, f0, f1, f2, some ad, LL.length, lc⟩ PP.length BB.length F lb la (unitR k) (by omega) (by omega) hlo.1 (hg.tgt _ _) (unit_bd k) rfl rfl rfl (fun β => rfl) rfl ?_)
   exact ⟨k + 1, by omega, by omega, Ent.weak rfl ⟨rfl, rfl, rfl, rfl, trivial⟩ ⟨rfl, by rw [hst]; rfl, by rw [hst, hgs_put]; rfl, by rw [hst]; rfl, rfl, trivial⟩ fun _ h => h⟩
 · obtain rfl : k = LL.length := by omega
   repeat'
    conv => whnf
    first
     | refine zA ?_ | refine zB ?_ | refine zC ?_ | refine zD ?_ | refine zE ?_ | refine zF ?_ | refine zG ?_ | refine zH ?_ | refine zI ?_ | refine splT ?_ | refine splF ?_ | refine splNot ?_
     | ((first | refine splIn ?_ ?_ | refine splD ?_ ?_ | refine splE ?_ ?_ | refine splNE ?_ ?_) <;> intro hc <;> first | (exfalso; omega) | (exfalso; dsimp only at hc; omega) | skip)
     | ((with_reducible show CallEv _ _ 66 _ _ _ _ _); refine callI env mixed 1000 [3] Try.func66 has66 Try.ntmps66 (Nat.le_of_ble_eq_true rfl) rfl rfl rfl ?_)
   conv => whnf
   refine rf_inline env mixed 1000 [3] Try.func96 has96 Try.ntmps96 rfl rfl (by decide) rfl rfl ?_
   intro lp asg bdy hasg hbdy
   repeat'
    conv => whnf
    first
     | refine zA ?_ | refine zB ?_ | refine zC ?_ | refine zD ?_ | refine zE ?_ | refine zF ?_ | refine zG ?_ | refine zH ?_ | refine zI ?_ | refine splT ?_ | refine splF ?_ | refine splNot ?_
     | ((first | refine splIn ?_ ?_ | refine splD ?_ ?_ | refine splE ?_ ?_ | refine splNE ?_ ?_) <;> intro hc <;> first | (exfalso; omega) | (exfalso; dsimp only at hc; omega) | skip)
     | refine nilE rfl rfl ?_
   conv => whnf
   refine loopN 10 (fun k : Nat => [(0, .v (.func (.yield lp) #[] #[])), (1, .ptr 9 0), (3, .v (iv ((BB.length : Int) - 1 - k)))])
    (fun k => [(7, .cells [.v (.slice po PP.length pc), .v (.slice bo BB.length bc), .v (iv f0), .v (iv f1), .v (iv f2), .v (.slice lo LL.length lc), .os 1 2 PP.length, .os 3 4 BB.length, .os 5 6 BB.length] 146), (1, .own 2 PP.length 21 (ptsL PP.length (bmsF BB (ldsF LL LL.length) k)) 118), (3, .own 4 BB.length 42 (hgsL BB.length (bmsF BB (ldsF LL LL.length) k)) 148), (5, .own 6 BB.length 1281 (hngL BB.length (bmsF BB (ldsF LL LL.length) k)) 159), (8, .cells [.ptr 7 0] 115), (9, .cells [.ptr 7 0] 115)])
    (fun k => k ≤ BB.length) (fun k => BB.length - k) 0 (Nat.zero_le _) ⟨rfl, rfl, by rw [Int.natCast_zero, Int.sub_zero]; rfl, trivial⟩ ⟨rfl, rfl, rfl, rfl, rfl, rfl, trivial⟩ (fun _ _ => ⟨rfl, rfl⟩) ?_
   intro k hk2
   rcases Nat.lt_or_ge k BB.length with hkl2 | hkl2
   · obtain ⟨i, hi⟩ : ∃ i, i + k + 1 = BB.length := ⟨BB.length - 1 - k, by omega⟩
     have hik : (BB.length : Int) - 1 - (k : Int) = (i : Int) := by omega
     have hik2 : (BB.length : Int) - 1 - ((k + 1 : Nat) : Int) = (i : Int) - 1 := by omega
     rw [hik]
     obtain ⟨b, hb⟩ : ∃ b, BB[i]? = some b := ⟨_, List.getElem?_eq_getElem (by omega)⟩
     obtain ⟨_, ad, rfl, _⟩ := hB.ptr (by omega)
     have e0 := fun (w' : World) hw' => rd_ati (hB.below (w' := w') hw') hb
     have hst : bmsF BB (ldsF LL LL.length) (k + 1) = bmF b i (bmsF BB (ldsF LL LL.length) k) := by
      rw [bmsF, show BB.length - 1 - k = i from by omega, hb]
     have g0 := hG.b0 k hk2
     have g1 := hG.b1 k i b hb hi
     have g2 := hG.b2 k i b hb hi
     have g3 := hG.b3 k i b hb hi
     have hbm : bmOk PP.length i b = true := by have := bmsOk_all q4 i b hb; simpa using this
     rw [bmOk_iff] at hbm
     generalize bmsF BB (ldsF LL LL.length) k = F at *
     obtain ⟨b1, b2, b3, b4, b5, b6, b7, b8⟩ := b
     dsimp only at hbm
     obtain ⟨c1, c2, c3, c4, c5, c6, c7⟩ := hbm
     have c3' : 1 ≤ b2 - b1 ∧ b2 - b1 ≤ 60 := spanB_bd c3
     unfold bmF at hst
     unfold bmG at hst g3
     generalize hF1 : putU F i 30 (wtR ⟨b1, b2, b3, b4, b5, b6, b7, b8⟩) = F1 at *
     have hu0 : ∀ a, (hgF ⟨b1, b2, b3, b4, b5, b6, b7, b8⟩ i F1 a).u = F1.u := hgF_u _ _ _
     have hload : ∀ j v, ((List.range 61).flatMap fun a => rwL (F1.u i a))[j]? = some v → (hngL BB.length F1)[(i : Int).toNat * ti159.size + j]? = some v := fun j v h => by
      rw [Int.toNat_natCast]
      exact fm_get (sz := 1281) (f := fun j => (List.range 61).flatMap fun a => rwL (F1.u j a)) (hn_len F1) (by omega) h
     obtain ⟨C, hC1, hC2, hC3⟩ : ∃ C : List Value, C.length = ti159.size ∧ (∀ j v, C[j]? = some v → (hngL BB.length F1)[(i : Int).toNat * ti159.size + j]? = some v) ∧ ∀ a : Nat, a < 61 → ∀ j v, (rwL (F1.u i a))[j]? = some v → C[a * 21 + j]? = some v :=
      ⟨_, hn_len F1 i, hload, fun a ha j v h => fm_get (sz := 21) (f := fun a => rwL (F1.u i a)) (fun _ => rfl) ha h⟩
     clear hload
     repeat'
      conv => whnf
      first
       | refine zA ?_ | refine zB ?_ | refine zC ?_ | refine zD ?_ | refine zE ?_ | refine zF ?_ | refine zG ?_ | refine zH ?_ | refine zI ?_ | refine splT ?_ | refine splF ?_ | refine splNot ?_
       | ((first | refine splIn ?_ ?_ | refine splD ?_ ?_ | refine splE ?_ ?_ | refine splNE ?_ ?_) <;> intro hc <;> first | (exfalso; omega) | (exfalso; dsimp only at hc; omega) | skip)
       | refine nilE rfl rfl ?_
       | refine Exists.intro (α := List Value) [iv b1, iv b2, iv b3, iv b4, iv b5, iv b6, iv b7, iv b8] ⟨⟨rfl, fun w' hw' => e0 w' hw'⟩, ?_⟩
       | refine And.intro (a := (_ : List _) = [] ∧ (_ : List _) = []) ⟨rfl, rfl⟩ ?_
       | refine yield_inline env mixed 0 2000 [3] [0, 1, 3] rfl rfl rfl rfl rfl rfl rfl ?_
       | refine vc_eq env hasg ?_
       | refine vc_eq env hbdy ?_
       | ((with_reducible show CallEv _ _ 65 _ _ _ _ _); refine callPutE ⟨po, PP.length, pc, some ad, BB.length, bc, f0, f1, f2, lo, LL.length, lc⟩ PP.length BB.length F F1 i 30 (wtR ⟨b1, b2, b3, b4, b5, b6, b7, b8⟩) ((putF_nat _ _ _).trans hF1) (by omega) (by omega) (hasB_own (by omega)) (g0.tgt _ _) g1.1 rfl rfl rfl (fun β => rfl) rfl ?_)
       | refine Exists.intro (α := List Value) C ⟨⟨hC1, hC2⟩, normK_mk _ ?_⟩
     conv => whnf
     refine loopN 12 (fun a : Nat => [(3, .ptr 8 0), (7, .v (iv i)), (8, .ptr 10 0), (64, .agg (C.map .v)), (65, .v (iv a))])
      (fun a => [(7, .cells [.v (.slice po PP.length pc), .v (.slice (some ad) BB.length bc), .v (iv f0), .v (iv f1), .v (iv f2), .v (.slice lo LL.length lc), .os 1 2 PP.length, .os 3 4 BB.length, .os 5 6 BB.length] 146), (1, .own 2 PP.length 21 (ptsL PP.length (hgF ⟨b1, b2, b3, b4, b5, b6, b7, b8⟩ i F1 a)) 118), (3, .own 4 BB.length 42 (hgsL BB.length (hgF ⟨b1, b2, b3, b4, b5, b6, b7, b8⟩ i F1 a)) 148), (5, .own 6 BB.length 1281 (hngL BB.length (hgF ⟨b1, b2, b3, b4, b5, b6, b7, b8⟩ i F1 a)) 159), (8, .cells [.ptr 7 0] 115), (9, .cells [.ptr 7 0] 115), (10, .cells [.v (iv b1), .v (iv b2), .v (iv b3), .v (iv b4), .v (iv b5), .v (iv b6), .v (iv b7), .v (iv b8)] 134)])
      (fun a => a ≤ 61) (fun a => 61 - a) 0 (Nat.zero_le _) ⟨rfl, rfl, rfl, rfl, rfl, trivial⟩ ⟨rfl, rfl, by rw [← hF1]; rfl, rfl, rfl, rfl, rfl, trivial⟩ (fun a _ => ⟨by show (SV.lts 12 (C.map SV.v) && _) = true; rw [lts_v]; rfl, rfl⟩) ?_
     intro a ha
     have g4 := g1.2 a ha
     rcases Nat.lt_or_ge a 61 with hal | hal
     · have g5 := g2 a hal
       have hrow : rwB (F1.u i a) := by rw [← hu0 a]; exact g4.2.2 i a
       rw [hu0 a] at g5
       have hsub := sub_row (hC3 a hal)
       have hstA : hgF ⟨b1, b2, b3, b4, b5, b6, b7, b8⟩ i F1 (a + 1) = setH (setH (hgF ⟨b1, b2, b3, b4, b5, b6, b7, b8⟩ i F1 a) i 0 (addR ((hgF ⟨b1, b2, b3, b4, b5, b6, b7, b8⟩ i F1 a).h i 0) (lft b1 b2 a (F1.u i a)))) i 1 (addR ((hgF ⟨b1, b2, b3, b4, b5, b6, b7, b8⟩ i F1 a).h i 1) (rgt b1 b2 a (F1.u i a))) := by
        show hStep _ _ _ _ = _
        unfold hStep
        rw [hu0 a]
       generalize hgF ⟨b1, b2, b3, b4, b5, b6, b7, b8⟩ i F1 a = H at *
       generalize F1.u i a = X at *
       have hh0 := g4.2.1 i 0
       have hh1 := g4.2.1 i 1
       have hl0 : ∀ j v, (rwL (H.h i 0))[j]? = some v → (hgsL BB.length H)[(i : Int).toNat * ti148.size + (0 : Int).toNat * ti118.size + j]? = some v := fun j v h => by
        rw [Int.toNat_natCast]; exact hgs_get (k := i) (a := 0) (by omega) (by omega) h
       have hl1 : ∀ j v, (rwL (H.h i 1))[j]? = some v → (hgsL BB.length H)[(i : Int).toNat * ti148.size + (1 : Int).toNat * ti118.size + j]? = some v := fun j v h => by
        rw [Int.toNat_natCast]; exact hgs_get (k := i) (a := 1) (by omega) (by omega) h
       have hpt := fun w' => part_ok ⟨b1, b2, b3, b4, b5, b6, b7, b8⟩ X a w' hrow c3' c1 (by omega)
       dsimp only at hpt
       generalize lft b1 b2 a X = L at *
       generalize rgt b1 b2 a X = R at *
       have hs0 : (i : Int).toNat * ti148.size + (0 : Int).toNat * ti118.size + (rwL (addR (H.h i 0) L)).length ≤ (hgsL BB.length H).length := by
        rw [hgs_len, Int.toNat_natCast, rwL_len, show ti118.size = 21 from rfl, show ti148.size = 42 from rfl]; show i * 42 + 0 * 21 + 21 ≤ _; omega
       have he0 : (hgsL BB.length H).take ((i : Int).toNat * ti148.size + (0 : Int).toNat * ti118.size) ++ rwL (addR (H.h i 0) L) ++ (hgsL BB.length H).drop ((i : Int).toNat * ti148.size + (0 : Int).toNat * ti118.size + (rwL (addR (H.h i 0) L)).length) = hgsL BB.length (setH H i 0 (addR (H.h i 0) L)) := by
        rw [Int.toNat_natCast, rwL_len]; exact hgs_set (k := i) (a := 0) (by omega) (by omega) _
       have hs1 : (i : Int).toNat * ti148.size + (1 : Int).toNat * ti118.size + (rwL (addR (H.h i 1) R)).length ≤ (hgsL BB.length (setH H i 0 (addR (H.h i 0) L))).length := by
        rw [hgs_len, Int.toNat_natCast, rwL_len, show ti118.size = 21 from rfl, show ti148.size = 42 from rfl]; show i * 42 + 1 * 21 + 21 ≤ _; omega
       have he1 : (hgsL BB.length (setH H i 0 (addR (H.h i 0) L))).take ((i : Int).toNat * ti148.size + (1 : Int).toNat * ti118.size) ++ rwL (addR (H.h i 1) R) ++ (hgsL BB.length (setH H i 0 (addR (H.h i 0) L))).drop ((i : Int).toNat * ti148.size + (1 : Int).toNat * ti118.size + (rwL (addR (H.h i 1) R)).length) = hgsL BB.length (setH (setH H i 0 (addR (H.h i 0) L)) i 1 (addR (H.h i 1) R)) := by
        rw [Int.toNat_natCast, rwL_len]; exact hgs_set (k := i) (a := 1) (by omega) (by omega) _
       repeat'
        conv => whnf
        first
         | refine zA ?_ | refine zB ?_ | refine zC ?_ | refine zD ?_ | refine zE ?_ | refine zF ?_ | refine zG ?_ | refine zH ?_ | refine zI ?_ | refine splT ?_ | refine splF ?_ | refine splNot ?_
         | ((first | refine splIn ?_ ?_ | refine splD ?_ ?_ | refine splE ?_ ?_ | refine splNE ?_ ?_) <;> intro hc <;> first | (exfalso; omega) | (exfalso; dsimp only at hc; omega) | skip)
         | refine nilE rfl rfl ?_
         | refine idxL env (rwS X) rfl rfl rfl rfl (And.intro (by omega) (by omega)) rfl hsub rfl rfl rfl ?_
         | ((with_reducible show CallEv _ _ 67 _ _ _ _ _); refine callE (k := 67) (fun β w' hbw => hpt _) ?_)
         | refine Exists.intro (α := List Value) (rwL (H.h i 0)) ⟨⟨rfl, hl0⟩, ?_⟩
         | refine Exists.intro (α := List Value) (rwL (H.h i 1)) ⟨⟨rfl, hl1⟩, ?_⟩
         | ((with_reducible show CallEv _ _ 68 [.sl 15 0 2 2] _ _ _ _); refine callM (k := 68) [15] (fun β w' hbk hbw => sum_ok (H.h i 0) L _ 2 w' (Rd.of_cells (sz := 21) (f := rwL) (bs := [H.h i 0, L]) (fun _ => rfl) rfl (hbk 15 (by simp) _ rfl)) hh0 g5.1) ?_)
         | ((with_reducible show CallEv _ _ 68 [.sl 16 0 2 2] _ _ _ _); refine callM (k := 68) [16] (fun β w' hbk hbw => sum_ok (H.h i 1) R _ 2 w' (Rd.of_cells (sz := 21) (f := rwL) (bs := [H.h i 1, R]) (fun _ => rfl) rfl (hbk 16 (by simp) _ rfl)) hh1 g5.2) ?_)
       refine valsK_mk (rwL (addR (H.h i 0) L)) ?_
       refine And.intro hs0 ?_
       rw [he0]
       repeat'
        conv => whnf
        first
         | refine zA ?_ | refine zB ?_ | refine zC ?_ | refine zD ?_ | refine zE ?_ | refine zF ?_ | refine zG ?_ | refine zH ?_ | refine zI ?_ | refine splT ?_ | refine splF ?_ | refine splNot ?_
         | ((first | refine splIn ?_ ?_ | refine splD ?_ ?_ | refine splE ?_ ?_ | refine splNE ?_ ?_) <;> intro hc <;> first | (exfalso; omega) | (exfalso; dsimp only at hc; omega) | skip)
       refine valsK_mk (rwL (addR (H.h i 1) R)) ?_
       refine And.intro hs1 ?_
       rw [he1]
       repeat'
        conv => whnf
        first
         | refine zA ?_ | refine zB ?_ | refine zC ?_ | refine zD ?_ | refine zE ?_ | refine zF ?_ | refine zG ?_ | refine zH ?_ | refine zI ?_ | refine splT ?_ | refine splF ?_ | refine splNot ?_
         | ((first | refine splIn ?_ ?_ | refine splD ?_ ?_ | refine splE ?_ ?_ | refine splNE ?_ ?_) <;> intro hc <;> first | (exfalso; omega) | (exfalso; dsimp only at hc; omega) | skip)
       exact ⟨a + 1, by omega, by omega, Ent.weak rfl ⟨rfl, rfl, rfl, rfl, rfl, trivial⟩ ⟨rfl, by rw [hstA]; rfl, by rw [hstA]; rfl, by rw [hstA]; rfl, rfl, rfl, rfl, trivial⟩ fun _ h => h⟩
     · obtain rfl : a = 61 := by omega
       clear g1 g2
       generalize hgF ⟨b1, b2, b3, b4, b5, b6, b7, b8⟩ i F1 61 = G at *
       have hl0 : ∀ j v, (rwL (G.h i 0))[j]? = some v → (hgsL BB.length G)[(i : Int).toNat * ti148.size + (0 : Int).toNat * ti118.size + j]? = some v := fun j v h => by
        rw [Int.toNat_natCast]; exact hgs_get (k := i) (a := 0) (by omega) (by omega) h
       have hl1 : ∀ j v, (rwL (G.h i 1))[j]? = some v → (hgsL BB.length G)[(i : Int).toNat * ti148.size + (1 : Int).toNat * ti118.size + j]? = some v := fun j v h => by
        rw [Int.toNat_natCast]; exact hgs_get (k := i) (a := 1) (by omega) (by omega) h
       have c4' := hasB_mono c4 (show (i : Int) ≤ BB.length by omega)
       have c5' := hasB_mono c5 (show (i : Int) ≤ BB.length by omega)
       repeat'
        conv => whnf
        first
         | refine zA ?_ | refine zB ?_ | refine zC ?_ | refine zD ?_ | refine zE ?_ | refine zF ?_ | refine zG ?_ | refine zH ?_ | refine zI ?_ | refine splT ?_ | refine splF ?_ | refine splNot ?_
         | ((first | refine splIn ?_ ?_ | refine splD ?_ ?_ | refine splE ?_ ?_ | refine splNE ?_ ?_) <;> intro hc <;> first | (exfalso; omega) | (exfalso; dsimp only at hc; omega) | skip)
         | refine nilE rfl rfl ?_
         | refine Exists.intro (α := List Value) (rwL (G.h i 0)) ⟨⟨rfl, hl0⟩, ?_⟩
         | refine Exists.intro (α := List Value) (rwL (G.h i 1)) ⟨⟨rfl, hl1⟩, ?_⟩
         | ((with_reducible show CallEv _ _ 65 [_, .agg [.v (iv b3), .v (iv b4)], _] _ _ _ _); refine callPut ⟨po, PP.length, pc, some ad, BB.length, bc, f0, f1, f2, lo, LL.length, lc⟩ PP.length BB.length G b3 b4 (G.h i 0) (by omega) (by omega) c4' (g4.tgt _ _) (g4.2.1 i 0) rfl rfl rfl (fun β => rfl) rfl ?_)
         | ((with_reducible show CallEv _ _ 65 [_, .agg [.v (iv b5), .v (iv b6)], _] _ _ _ _); refine callPut ⟨po, PP.length, pc, some ad, BB.length, bc, f0, f1, f2, lo, LL.length, lc⟩ PP.length BB.length (putF G b3 b4 (G.h i 0)) b5 b6 (G.h i 1) (by omega) (by omega) c5' (g3.tgt _ _) (g4.2.1 i 1) rfl rfl rfl (fun β => rfl) rfl ?_)
       exact ⟨k + 1, by omega, by omega, Ent.weak rfl ⟨rfl, rfl, by rw [hik2]; rfl, trivial⟩ ⟨rfl, by rw [hst]; rfl, by rw [hst, hgs_put, hgs_put]; rfl, by rw [hst]; rfl, rfl, rfl, trivial⟩ (fun _ h => h) (.inr ⟨rfl, ⟨rfl, trivial⟩, ⟨rfl, trivial⟩⟩)⟩
   · obtain rfl : k = BB.length := by omega
     repeat'
      conv => whnf
      first
       | refine zA ?_ | refine zB ?_ | refine zC ?_ | refine zD ?_ | refine zE ?_ | refine zF ?_ | refine zG ?_ | refine zH ?_ | refine zI ?_ | refine splT ?_ | refine splF ?_ | refine splNot ?_
       | ((first | refine splIn ?_ ?_ | refine splD ?_ ?_ | refine splE ?_ ?_ | refine splNE ?_ ?_) <;> intro hc <;> first | (exfalso; omega) | (exfalso; dsimp only at hc; omega) | skip)
       | refine nilE rfl rfl ?_
     exact ⟨fun w' h => h, fun β w' hB' hblk => ⟨⟨β 7, β 1, β 2, β 3, β 4, β 5, β 6⟩, rfl, (((hblk 7 _ rfl rfl).and (hblk 1 _ rfl rfl)).and (hblk 3 _ rfl rfl)).imp fun w2 q => frIn_of (r := ⟨po, PP.length, pc, bo, BB.length, bc, f0, f1, f2, lo, LL.length, lc⟩) q.1.1 q.1.2 q.2⟩⟩
end Go.Proofs.Ytfbokllafdnglaa
namespace Go.Proofs.Ytfbokllafdnglaa
open Go Tx Go.RowKit
set_option linter.unusedSimpArgs false
set_option linter.unusedVariables false
def sumN : Nat → (Nat → Nat) → Nat
 | 0, _ => 0
 | n + 1, f => sumN n f + f n
theorem sumN_le {f g : Nat → Nat} {k d : Nat} (h1 : ∀ j, j ≠ k → g j ≤ f j) (h2 : g k ≤ f k + d) : ∀ n, sumN n g ≤ sumN n f + (if k < n then d else 0)
 | 0 => by simp [sumN]
 | n + 1 => by
  have ih := sumN_le h1 h2 n
  simp only [sumN]
  by_cases hn : n = k
  · subst hn
    rw [if_neg (by omega)] at ih
    rw [if_pos (by omega)]
    omega
  · have := h1 n hn
    split at ih
    · rw [if_pos (by omega)]; omega
    · rw [if_neg (by omega)]; omega
theorem sumN_le' {f g : Nat → Nat} {k d : Nat} (h1 : ∀ j, j ≠ k → g j ≤ f j) (h2 : g k ≤ f k + d) (n : Nat) : sumN n g ≤ sumN n f + d := by
 have := sumN_le h1 h2 n
 split at this <;> omega
theorem sumN_mem {f : Nat → Nat} {k : Nat} : ∀ {n}, k < n → f k ≤ sumN n f
 | n + 1, h => by
  simp only [sumN]
  by_cases hk : k = n
  · subst hk; omega
  · have := sumN_mem (f := f) (show k < n by omega); omega
theorem sumN_mono {f : Nat → Nat} {n m : Nat} (h : n ≤ m) : sumN n f ≤ sumN m f := by
 induction m with
 | zero => rw [Nat.le_zero.1 h]; exact Nat.le_refl _
 | succ m ih =>
  by_cases hn : n = m + 1
  · subst hn; exact Nat.le_refl _
  · have := ih (by omega)
    simp only [sumN]; omega
theorem sumN_zero {f : Nat → Nat} (h : ∀ j, f j = 0) : ∀ n, sumN n f = 0
 | 0 => rfl
 | n + 1 => by rw [sumN, sumN_zero h n, h]
def phi (wt : Nat → Nat) (F : Fr) (N I c : Nat) : Nat := sumN N (fun j => (F.p j c).natAbs) + sumN I (fun b => wt b * sumN 61 (fun a => (F.u b a c).natAbs))
def pw (wt : Nat → Nat) (b : Int) : Nat := if b = -1 then 1 else wt b.toNat
theorem phi_putU (wt : Nat → Nat) (F : Fr) (b a : Nat) (x : Row) (N I c : Nat) : phi wt (putU F b a x) N I c ≤ phi wt F N I c + wt b * (x c).natAbs := by
 have h := sumN_le' (f := fun b => wt b * sumN 61 (fun a => (F.u b a c).natAbs)) (g := fun b' => wt b' * sumN 61 (fun a' => ((putU F b a x).u b' a' c).natAbs)) (k := b) (d := wt b * (x c).natAbs) (fun j hj => ?_) ?_ I
 · unfold phi
   have hp : (putU F b a x).p = F.p := rfl
   rw [hp]
   omega
 · simp only [putU, if_neg hj]; exact Nat.le_refl _
 · have h2 := sumN_le' (f := fun a => (F.u b a c).natAbs) (g := fun a' => ((putU F b a x).u b a' c).natAbs) (k := a) (d := (x c).natAbs) (fun j hj => by simp only [putU, if_true, if_neg hj]; exact Nat.le_refl _) (by simp only [putU, if_true, addR]; omega) 61
   have := Nat.mul_le_mul_left (wt b) h2
   rw [Nat.mul_add] at this
   exact this
theorem phi_putP (wt : Nat → Nat) (F : Fr) (a : Nat) (x : Row) (N I c : Nat) : phi wt (putP F a x) N I c ≤ phi wt F N I c + (x c).natAbs := by
 have h := sumN_le' (f := fun j => (F.p j c).natAbs) (g := fun j => ((putP F a x).p j c).natAbs) (k := a) (d := (x c).natAbs) (fun j hj => by simp only [putP, if_neg hj]; exact Nat.le_refl _) (by simp only [putP, if_true, addR]; omega) N
 unfold phi
 have hu : (putP F a x).u = F.u := rfl
 rw [hu]
 omega
theorem phi_put (wt : Nat → Nat) (F : Fr) (b a : Int) (x : Row) (N I c : Nat) : phi wt (putF F b a x) N I c ≤ phi wt F N I c + pw wt b * (x c).natAbs := by
 unfold putF pw
 split
 · have := phi_putP wt F a.toNat x N I c; omega
 · exact phi_putU wt F b.toNat a.toNat x N I c
structure Inv (wt : Nat → Nat) (F : Fr) (I c B : Nat) : Prop where
 f1 : ∀ N, phi wt F N I c ≤ B
 f2 : ∀ j k, (F.h j k c).natAbs ≤ B
 f3 : ∀ j a, (I ≤ j ∨ 61 ≤ a) → (F.u j a c).natAbs ≤ B
def Bnd (F : Fr) (c B : Nat) : Prop := (∀ j, (F.p j c).natAbs ≤ B) ∧ (∀ j k, (F.h j k c).natAbs ≤ B) ∧ (∀ j a, (F.u j a c).natAbs ≤ B)
theorem Inv.bnd {wt : Nat → Nat} {F : Fr} {I c B : Nat} (h : Inv wt F I c B) (hw : ∀ j, j < I → 1 ≤ wt j) : Bnd F c B := by
 refine ⟨fun j => ?_, h.f2, fun j a => ?_⟩
 · have := h.f1 (j + 1)
   have h2 := sumN_mem (f := fun j => (F.p j c).natAbs) (show j < j + 1 by omega)
   unfold phi at this
   omega
 · by_cases hj : I ≤ j ∨ 61 ≤ a
   · exact h.f3 j a hj
   · have := h.f1 0
     have h2 := sumN_mem (f := fun a => (F.u j a c).natAbs) (show a < 61 by omega)
     have h3 := sumN_mem (f := fun b => wt b * sumN 61 (fun a => (F.u b a c).natAbs)) (show j < I by omega)
     have h4 := Nat.le_mul_of_pos_left (sumN 61 (fun a => (F.u j a c).natAbs)) (hw j (by omega))
     unfold phi at this
     omega
theorem Inv.mono {wt : Nat → Nat} {F : Fr} {I c B B' : Nat} (h : Inv wt F I c B) (hB : B ≤ B') : Inv wt F I c B' :=
 ⟨fun N => Nat.le_trans (h.f1 N) hB, fun j k => Nat.le_trans (h.f2 j k) hB, fun j a hj => Nat.le_trans (h.f3 j a hj) hB⟩
theorem Inv.put {wt : Nat → Nat} {F : Fr} {I c B n : Nat} (h : Inv wt F I c B) {b a : Int} {x : Row} (hh : hasB n b a I = true) : Inv wt (putF F b a x) I c (B + pw wt b * (x c).natAbs) := by
 refine ⟨fun N => ?_, fun j k => ?_, fun j k hj => ?_⟩
 · have := phi_put wt F b a x N I c
   have := h.f1 N
   omega
 · rw [put_h]
   have := h.f2 j k
   omega
 · have := h.f3 j k hj
   rcases hasB_cases hh with ⟨rfl, _, _⟩ | ⟨hne, ⟨h1, h2⟩, h3, h4⟩
   · have hu : (putF F (-1) a x).u = F.u := rfl
     rw [hu]; omega
   · have hu : (putF F b a x).u j k = F.u j k := by
      unfold putF
      rw [if_neg hne]
      simp only [putU]
      split
      · rw [if_neg (by omega)]
      · rfl
     rw [hu]; omega
theorem part_abs {lo hi a : Int} (f : Row) (c : Nat) (hs : 10 ≤ hi - lo) (hl : 0 ≤ lo ∧ lo ≤ 60) (ha : 0 ≤ a ∧ a ≤ 60) : (lft lo hi a f c).natAbs + (rgt lo hi a f c).natAbs ≤ 13 * (f c).natAbs := by
 unfold lft rgt
 have h1 : ((f c).tdiv (hi - lo)).natAbs = (f c).natAbs / (hi - lo).natAbs := Int.natAbs_tdiv _ _
 have h2 : (f c).natAbs / (hi - lo).natAbs ≤ (f c).natAbs / 10 := Nat.div_le_div_left (by omega) (by omega)
 have h3 := Int.natAbs_mul ((f c).tdiv (hi - lo)) (a - lo)
 have h4 : ((f c).tdiv (hi - lo)).natAbs * (a - lo).natAbs ≤ ((f c).natAbs / 10) * 60 := Nat.mul_le_mul (by omega) (by omega)
 generalize (f c).tdiv (hi - lo) * (a - lo) = z at *
 omega
theorem hgF_p (b : Bm) (i : Nat) (F : Fr) : ∀ a, (hgF b i F a).p = F.p
 | 0 => rfl
 | a + 1 => hgF_p b i F a
theorem hgF_h (b : Bm) (i : Nat) (F : Fr) {j : Nat} (hj : j ≠ i) : ∀ a, (hgF b i F a).h j = F.h j
 | 0 => rfl
 | a + 1 => by
  have := hgF_h b i F hj a
  rw [← this]
  funext k
  simp only [hgF, hStep, setH, if_neg hj]
theorem hgF_hi (b : Bm) (i : Nat) (F : Fr) (a : Nat) : (hgF b i F (a + 1)).h i 0 = addR ((hgF b i F a).h i 0) (lft b.lo b.hi a (F.u i a)) ∧ (hgF b i F (a + 1)).h i 1 = addR ((hgF b i F a).h i 1) (rgt b.lo b.hi a (F.u i a)) ∧ ∀ k, 2 ≤ k → (hgF b i F (a + 1)).h i k = (hgF b i F a).h i k := by
 have hu : (hgF b i F a).u = F.u := hgF_u b i F a
 refine ⟨?_, ?_, fun k hk => ?_⟩
 · show (hStep b i a (hgF b i F a)).h i 0 = _
   unfold hStep
   rw [hu]
   simp [setH]
 · show (hStep b i a (hgF b i F a)).h i 1 = _
   unfold hStep
   rw [hu]
   simp [setH]
 · show (hStep b i a (hgF b i F a)).h i k = _
   unfold hStep
   simp only [setH, if_true]
   rw [if_neg (by omega), if_neg (by omega)]
theorem hgF_abs {b : Bm} {i : Nat} {F : Fr} {c : Nat} (h0 : ∀ k, F.h i k c = 0) (hs : 10 ≤ b.hi - b.lo) (hl : 0 ≤ b.lo ∧ b.lo ≤ 60) : ∀ a : Nat, a ≤ 61 → ((hgF b i F a).h i 0 c).natAbs + ((hgF b i F a).h i 1 c).natAbs ≤ 13 * sumN a (fun a => (F.u i a c).natAbs) ∧ ∀ k, 2 ≤ k → (hgF b i F a).h i k c = 0
 | 0, _ => ⟨by show (F.h i 0 c).natAbs + (F.h i 1 c).natAbs ≤ _; rw [h0, h0]; simp, fun k _ => h0 k⟩
 | a + 1, ha => by
  obtain ⟨ih, ih2⟩ := hgF_abs h0 hs hl a (by omega)
  obtain ⟨e1, e2, e3⟩ := hgF_hi b i F a
  have hp := part_abs (a := (a : Int)) (F.u i a) c hs hl (by omega)
  refine ⟨?_, fun k hk => by rw [e3 k hk]; exact ih2 k hk⟩
  rw [e1, e2]
  simp only [sumN, addR]
  omega
theorem phi_succ (wt : Nat → Nat) (F : Fr) (N i c : Nat) : phi wt F N (i + 1) c = phi wt F N i c + wt i * sumN 61 (fun a => (F.u i a c).natAbs) := by
 unfold phi
 rw [Nat.add_assoc]
 rfl
theorem Inv.beam {wt : Nat → Nat} {F : Fr} {i c B n : Nat} {b : Bm} (h : Inv wt F (i + 1) c B) (hz : ∀ k, F.h i k c = 0) (hok : bmOk n i b = true) (hs : 10 ≤ b.hi - b.lo)
 (hw0 : ∀ j, j < i + 1 → 1 ≤ wt j) (hw1 : 13 * pw wt b.ab ≤ wt i) (hw2 : 13 * pw wt b.bb ≤ wt i) :
 (∀ a, a ≤ 61 → Bnd (hgF b i (putU F i 30 (wtR b)) a) c (B + wt i * (wtR b c).natAbs)) ∧
 (∀ a : Nat, a < 61 → (lft b.lo b.hi a ((putU F i 30 (wtR b)).u i a) c).natAbs ≤ B + wt i * (wtR b c).natAbs ∧ (rgt b.lo b.hi a ((putU F i 30 (wtR b)).u i a) c).natAbs ≤ B + wt i * (wtR b c).natAbs) ∧
 Bnd (putF (bmG b i F) b.ab b.aa ((bmG b i F).h i 0)) c (B + wt i * (wtR b c).natAbs) ∧ Inv wt (bmF b i F) i c (B + wt i * (wtR b c).natAbs) := by
 rw [bmOk_iff] at hok
 obtain ⟨c1, c2, c3, c4, c5, c6, c7⟩ := hok
 generalize hB1 : B + wt i * (wtR b c).natAbs = B1
 have hA : Inv wt (putU F i 30 (wtR b)) (i + 1) c B1 := by
  refine ⟨fun N => ?_, fun j k => ?_, fun j a hj => ?_⟩
  · have := phi_putU wt F i 30 (wtR b) N (i + 1) c
    have := h.f1 N
    omega
  · have := h.f2 j k
    show (F.h j k c).natAbs ≤ _
    omega
  · have h3 := h.f3 j a hj
    have hu : (putU F i 30 (wtR b)).u j a = F.u j a := by
     simp only [putU]
     split
     · rw [if_neg (by omega)]
     · rfl
    rw [hu]; omega
 have hz1 : ∀ k, (putU F i 30 (wtR b)).h i k c = 0 := hz
 unfold bmF bmG
 generalize putU F i 30 (wtR b) = F1 at *
 have hAb := hA.bnd hw0
 have hS : ∀ N, phi wt F1 N i c + wt i * sumN 61 (fun a => (F1.u i a c).natAbs) ≤ B1 := fun N => by
  have := hA.f1 N
  rw [phi_succ] at this
  exact this
 have h13 : 13 ≤ wt i := by
  have : 1 ≤ pw wt b.ab := by
   unfold pw
   split
   · exact Nat.le_refl _
   · rcases hasB_cases c4 with h | h
     · exact absurd h.1 (by assumption)
     · exact hw0 _ (by omega)
  omega
 have hS2 : 13 * sumN 61 (fun a => (F1.u i a c).natAbs) ≤ B1 := by
  have := hS 0
  have := Nat.mul_le_mul_right (sumN 61 (fun a => (F1.u i a c).natAbs)) h13
  omega
 have hh := hgF_abs hz1 hs c1
 have hbn : ∀ a, a ≤ 61 → Bnd (hgF b i F1 a) c B1 := fun a ha => by
  refine ⟨fun j => by rw [hgF_p]; exact hAb.1 j, fun j k => ?_, fun j k => by rw [hgF_u]; exact hAb.2.2 j k⟩
  by_cases hj : j = i
  · subst hj
    obtain ⟨q1, q2⟩ := hh a ha
    have q3 := sumN_mono (f := fun a => (F1.u j a c).natAbs) ha
    match k with
    | 0 => omega
    | 1 => omega
    | k + 2 => rw [q2 (k + 2) (by omega)]; simp
  · rw [hgF_h b i F1 hj]; exact hAb.2.1 j k
 obtain ⟨q1, _⟩ := hh 61 (Nat.le_refl _)
 have hGi : Inv wt (hgF b i F1 61) i c (B1 - wt i * sumN 61 (fun a => (F1.u i a c).natAbs)) ∨ True := .inr trivial
 have hG := hbn 61 (Nat.le_refl _)
 have e1 : ∀ N, phi wt (hgF b i F1 61) N i c = phi wt F1 N i c := fun N => by unfold phi; rw [hgF_p, hgF_u]
 generalize hL : (hgF b i F1 61).h i 0 = L at *
 generalize hR : (hgF b i F1 61).h i 1 = R at *
 generalize hGG : hgF b i F1 61 = G at *
 generalize hSS : sumN 61 (fun a => (F1.u i a c).natAbs) = S at *
 have hM : pw wt b.ab * (L c).natAbs + pw wt b.bb * (R c).natAbs ≤ wt i * S := by
  have m1 : ∀ M, pw wt b.ab ≤ M → pw wt b.bb ≤ M → 13 * M ≤ wt i → pw wt b.ab * (L c).natAbs + pw wt b.bb * (R c).natAbs ≤ wt i * S := fun M ha hb hc => by
   have k1 := Nat.mul_le_mul_right (L c).natAbs ha
   have k2 := Nat.mul_le_mul_right (R c).natAbs hb
   have k3 := Nat.mul_le_mul_left M q1
   rw [Nat.mul_add] at k3
   have k4 := Nat.mul_le_mul_right S hc
   rw [Nat.mul_comm 13 M, Nat.mul_assoc] at k4
   omega
  rcases Nat.le_total (pw wt b.ab) (pw wt b.bb) with h | h
  · exact m1 _ h (Nat.le_refl _) hw2
  · exact m1 _ (Nat.le_refl _) h hw1
 have hI1 : Inv wt (putF G b.ab b.aa L) i c B1 := by
  refine ⟨fun N => ?_, fun j k => by rw [put_h]; exact hG.2.1 j k, fun j k hj => ?_⟩
  · have := phi_put wt G b.ab b.aa L N i c
    have := hS N
    rw [e1 N] at *
    omega
  · have hu : (putF G b.ab b.aa L).u j k = G.u j k := by
     unfold putF
     split
     · rfl
     · rcases hasB_cases c4 with h | h
       · exact absurd h.1 (by assumption)
       · simp only [putU]
         split
         · rw [if_neg (by omega)]
         · rfl
    rw [hu]; exact hG.2.2 j k
 refine ⟨hbn, fun a ha => ?_, hI1.bnd fun j hj => hw0 j (by omega), fun N => ?_, fun j k => by rw [put_h]; exact hI1.f2 j k, fun j k hj => ?_⟩
 · have hp := part_abs (a := (a : Int)) (F1.u i a) c hs c1 (by omega)
   have := sumN_mem (f := fun a => (F1.u i a c).natAbs) ha
   omega
 · have := phi_put wt G b.ab b.aa L N i c
   have := phi_put wt (putF G b.ab b.aa L) b.bb b.ba R N i c
   have := hS N
   rw [e1 N] at *
   omega
 · have hu : (putF (putF G b.ab b.aa L) b.bb b.ba R).u j k = (putF G b.ab b.aa L).u j k := by
    generalize putF G b.ab b.aa L = G'
    unfold putF
    split
    · rfl
    · rcases hasB_cases c5 with h | h
      · exact absurd h.1 (by assumption)
      · simp only [putU]
        split
        · rw [if_neg (by omega)]
        · rfl
   rw [hu]; exact hI1.f3 j k hj
end Go.Proofs.Ytfbokllafdnglaa
namespace Go.Proofs.Ytfbokllafdnglaa
open Go Tx Go.RowKit
set_option linter.unusedSimpArgs false
set_option linter.unusedVariables false
theorem dps_pre : ∀ (l : List Bm) (ds : List Int), ∃ t, dps ds l = ds ++ t
 | [], ds => ⟨[], by simp [dps]⟩
 | b :: l, ds => by
  obtain ⟨t, h⟩ := dps_pre l (ds ++ [dB b ds])
  exact ⟨dB b ds :: t, by rw [dps, h]; simp⟩
theorem bms_dep {pn : Nat} : ∀ {BB : List Bm} {ds : List Int}, dsB ds → bmsOk pn ds BB = true → ∀ (i : Nat) b, BB[i]? = some b → dsB (dps ds (BB.take i)) ∧ dB b (dps ds (BB.take i)) ≤ 3
 | [], _, _, _, i, b, h => by simp at h
 | c :: r, ds, hd, h, 0, b, hb => by
  rw [bmsOk, Bool.and_eq_true, Bool.and_eq_true] at h
  simp only [List.getElem?_cons_zero, Option.some.injEq] at hb
  subst hb
  exact ⟨hd, of_decide_eq_true h.1.2⟩
 | c :: r, ds, hd, h, i + 1, b, hb => by
  rw [bmsOk, Bool.and_eq_true, Bool.and_eq_true] at h
  have h3 : dB c ds ≤ 3 := by simpa using h.1.2
  exact bms_dep (dsB_snoc hd ⟨(dB_bd hd).1, h3⟩) h.2 i b (by simpa using hb)
def wtD (BB : List Bm) (j : Nat) : Nat := 13 ^ ((dps [] BB).getD j 0).toNat
theorem dsB_nil : dsB [] := fun j n h => by simp at h
theorem wtD_at {pn : Nat} {BB : List Bm} (h : bmsOk pn [] BB = true) {i : Nat} {b : Bm} (hb : BB[i]? = some b) : ∃ e : List Int, dsB e ∧ dB b e ≤ 3 ∧ wtD BB i = 13 ^ (dB b e).toNat ∧ ∀ j, j < i → wtD BB j = 13 ^ (e.getD j 0).toNat := by
 obtain ⟨h1, h2⟩ := bms_dep dsB_nil h i b hb
 have hl : (dps [] (BB.take i)).length = i := by
  rw [dps_len]; have := (List.getElem?_eq_some_iff.1 hb).1; simp; omega
 have ht : ∃ t, dps [] BB = dps [] (BB.take i) ++ [dB b (dps [] (BB.take i))] ++ t := by
  obtain ⟨t, ht⟩ := dps_pre (BB.drop (i + 1)) (dps [] (BB.take (i + 1)))
  refine ⟨t, ?_⟩
  rw [← dps_take hb [], ← ht, ← dps_append, List.take_append_drop]
 obtain ⟨t, ht⟩ := ht
 refine ⟨_, h1, h2, ?_, fun j hj => ?_⟩
 · unfold wtD
   rw [ht, List.getD_eq_getElem?_getD, List.append_assoc, List.getElem?_append_right (by omega), hl]
   simp
 · unfold wtD
   rw [ht, List.getD_eq_getElem?_getD, List.append_assoc, List.getElem?_append_left (by omega), List.getD_eq_getElem?_getD]
theorem wtD_bd {pn : Nat} {BB : List Bm} (h : bmsOk pn [] BB = true) {i : Nat} (hi : i < BB.length) : 13 ≤ wtD BB i ∧ wtD BB i ≤ 2197 := by
 obtain ⟨e, h1, h2, h3, _⟩ := wtD_at h (List.getElem?_eq_getElem hi)
 rw [h3]
 have h4 := (dB_bd (b := BB[i]) h1).1
 exact ⟨by have := Nat.pow_le_pow_right (n := 13) (by omega) (show 1 ≤ (dB BB[i] e).toNat by omega); simpa using this, by have := Nat.pow_le_pow_right (n := 13) (by omega) (show (dB BB[i] e).toNat ≤ 3 by omega); simpa using this⟩
theorem wtD_on {pn : Nat} {BB : List Bm} (h : bmsOk pn [] BB = true) {i : Nat} {b : Bm} (hb : BB[i]? = some b) : 13 * pw (wtD BB) b.ab ≤ wtD BB i ∧ 13 * pw (wtD BB) b.bb ≤ wtD BB i := by
 obtain ⟨e, h1, h2, h3, h4⟩ := wtD_at h hb
 have hok := bmsOk_all h i b hb
 simp only [List.length_nil, Int.natCast_zero, Int.zero_add] at hok
 rw [bmOk_iff] at hok
 obtain ⟨c1, c2, c3, c4, c5, c6, c7⟩ := hok
 have hA : b.ab ≠ -1 → e.getD b.ab.toNat 0 + 1 ≤ dB b e := fun hn => by
  have : e.getD b.ab.toNat 0 + 1 ≤ dA b e := by unfold dA; rw [if_neg hn, imax_eq]; omega
  unfold dB
  split
  · exact this
  · rw [imax_eq]; omega
 have hB : b.bb ≠ -1 → e.getD b.bb.toNat 0 + 1 ≤ dB b e := fun hn => by
  unfold dB; rw [if_neg hn, imax_eq]; omega
 have key : ∀ x : Int, x + 1 ≤ dB b e → 13 * 13 ^ x.toNat ≤ wtD BB i := fun x hx => by
  rw [h3]
  have := Nat.pow_le_pow_right (n := 13) (by omega) (show x.toNat + 1 ≤ (dB b e).toNat by have := (dB_bd (b := b) h1).1; omega)
  rw [Nat.pow_succ] at this
  omega
 have h13 := (wtD_bd h (List.getElem?_eq_some_iff.1 hb).1).1
 constructor
 · unfold pw
   split
   · omega
   · rename_i hn
     rcases hasB_cases c4 with h | h
     · exact absurd h.1 hn
     · rw [h4 _ (by omega)]
       exact key _ (hA hn)
 · unfold pw
   split
   · omega
   · rename_i hn
     rcases hasB_cases c5 with h | h
     · exact absurd h.1 hn
     · rw [h4 _ (by omega)]
       exact key _ (hB hn)
def Bl (c k : Nat) : Nat := if c < k then 474552000 else 0
def Bb (c k : Nat) : Nat := if c = 20 then k * 474552000000000 else 474552000
theorem inv_lds {f0 f1 f2 : Int} {PP : List Int} {BB : List Bm} {LL : List Ld} (hr : rigOk f0 f1 f2 PP BB LL = true) (c : Nat) : ∀ k, k ≤ LL.length → Inv (wtD BB) (ldsF LL k) BB.length c (Bl c k)
 | 0, _ => by
  refine ⟨fun N => ?_, fun j k => by show (0 : Int).natAbs ≤ _; omega, fun j a _ => by show (0 : Int).natAbs ≤ _; omega⟩
  unfold phi
  have e1 : sumN N (fun j => ((ldsF LL 0).p j c).natAbs) = 0 := sumN_zero (fun j => rfl) N
  have e2 : sumN BB.length (fun b => wtD BB b * sumN 61 (fun a => ((ldsF LL 0).u b a c).natAbs)) = 0 := sumN_zero (fun j => by
   have : sumN 61 (fun a => ((ldsF LL 0).u j a c).natAbs) = 0 := sumN_zero (fun j => rfl) 61
   rw [this, Nat.mul_zero]) _
  omega
 | k + 1, hk => by
  have ih := inv_lds hr c k (by omega)
  rw [rigOk_iff] at hr
  obtain ⟨q1, q2, q3, q4, q5, q6, q7⟩ := hr
  obtain ⟨l, hl⟩ : ∃ l, LL[k]? = some l := ⟨_, List.getElem?_eq_getElem (by omega)⟩
  have hok := List.all_eq_true.1 q7 l (List.mem_of_getElem? hl)
  rw [ldOk_iff] at hok
  rw [ldsF, hl]
  refine (ih.put hok.1).mono ?_
  have hpw : pw (wtD BB) l.beam ≤ 2197 := by
   unfold pw
   split
   · omega
   · rcases hasB_cases hok.1 with h | h
     · exact absurd h.1 (by assumption)
     · exact (wtD_bd q4 (by omega)).2
  unfold Bl unitR
  by_cases hck : c = k
  · subst hck
    rw [if_neg (by omega), if_pos (by omega), Nat.beq_refl]
    have := Nat.mul_le_mul_right 216000 hpw
    show 0 + _ * 216000 ≤ _
    omega
  · have hb : Nat.beq c k = false := by
     cases h : Nat.beq c k with
     | false => rfl
     | true => exact absurd (Nat.eq_of_beq_eq_true h) hck
    rw [hb]
    show _ + _ * 0 ≤ _
    rw [Nat.mul_zero, Nat.add_zero]
    split
    · rw [if_pos (by omega)]; omega
    · omega
theorem lds_h (LL : List Ld) : ∀ k, (ldsF LL k).h = fun _ _ => zr
 | 0 => rfl
 | k + 1 => by
  have ih := lds_h LL k
  rw [ldsF]
  split
  · rw [put_h]; exact ih
  · exact ih
theorem bms_h (BB : List Bm) (F : Fr) : ∀ k j, j + k < BB.length → (bmsF BB F k).h j = F.h j
 | 0, _, _ => rfl
 | k + 1, j, hj => by
  have ih := bms_h BB F k j (by omega)
  rw [bmsF]
  split
  · unfold bmF bmG
    rw [put_h, put_h, hgF_h _ _ _ (by omega)]
    exact ih
  · exact ih
theorem wtR_abs {b : Bm} (h : 0 ≤ b.wt ∧ b.wt ≤ 1000000) (c : Nat) : (wtR b c).natAbs ≤ if c = 20 then 216000000000 else 0 := by
 unfold wtR
 by_cases hc : c = 20
 · subst hc
   rw [if_pos rfl]
   show (b.wt * 216000).natAbs ≤ _
   omega
 · have hb : Nat.beq c 20 = false := by
    cases h : Nat.beq c 20 with
    | false => rfl
    | true => exact absurd (Nat.eq_of_beq_eq_true h) hc
   rw [hb, if_neg hc]
   show (0 : Int).natAbs ≤ 0
   omega
theorem span10 {b : Bm} (h : spanB b = true) : 10 ≤ b.hi - b.lo := by
 unfold spanB spL at h
 rw [List.contains_iff_mem] at h
 simp only [List.mem_cons, List.not_mem_nil, or_false] at h
 omega
section
variable {f0 f1 f2 : Int} {PP : List Int} {BB : List Bm} {LL : List Ld} (hr : rigOk f0 f1 f2 PP BB LL = true)
include hr
theorem bm_at {i : Nat} {b : Bm} (hb : BB[i]? = some b) : bmOk PP.length i b = true := by
 rw [rigOk_iff] at hr
 have := bmsOk_all hr.2.2.2.1 i b hb
 simpa using this
theorem wt_add {i : Nat} {b : Bm} (hb : BB[i]? = some b) (c k : Nat) : Bb c k + wtD BB i * (wtR b c).natAbs ≤ Bb c (k + 1) := by
 have hok := bm_at hr hb
 rw [bmOk_iff] at hok
 have h1 := wtR_abs hok.2.2.2.2.2.1 c
 rw [rigOk_iff] at hr
 have h2 := (wtD_bd hr.2.2.2.1 (List.getElem?_eq_some_iff.1 hb).1).2
 have h3 := Nat.mul_le_mul h2 h1
 unfold Bb
 split
 · rename_i hc
   rw [if_pos hc] at h3
   rw [Nat.succ_mul]
   omega
 · rename_i hc
   rw [if_neg hc] at h3
   omega
theorem inv_bms (c : Nat) : ∀ k, k ≤ BB.length → Inv (wtD BB) (bmsF BB (ldsF LL LL.length) k) (BB.length - k) c (Bb c k)
 | 0, _ => by
  refine (inv_lds hr c LL.length (Nat.le_refl _)).mono ?_
  have hl := hr
  rw [rigOk_iff] at hl
  unfold Bl Bb
  by_cases hc : c = 20
  · rw [if_neg (by omega)]; omega
  · rw [if_neg hc]; split <;> omega
 | k + 1, hk => by
  have ih := inv_bms c k (by omega)
  obtain ⟨i, hi⟩ : ∃ i, i + k + 1 = BB.length := ⟨BB.length - 1 - k, by omega⟩
  obtain ⟨b, hb⟩ : ∃ b, BB[i]? = some b := ⟨_, List.getElem?_eq_getElem (by omega)⟩
  have hok := bm_at hr hb
  have hadd := wt_add hr hb c k
  have hw0 : ∀ j, j < i + 1 → 1 ≤ wtD BB j := fun j hj => Nat.pow_pos (by omega)
  rw [rigOk_iff] at hr
  rw [show BB.length - k = i + 1 from by omega] at ih
  have hon := wtD_on hr.2.2.2.1 hb
  have hst := (ih.beam (fun c' => by rw [bms_h _ _ _ _ (by omega), lds_h]; rfl) hok (span10 (bmOk_iff.1 hok).2.2.1) hw0 hon.1 hon.2).2.2.2
  rw [bmsF, show BB.length - 1 - k = i from by omega, hb, show BB.length - (k + 1) = i from by omega]
  exact hst.mono hadd
theorem beam_bd {k i : Nat} {b : Bm} (hb : BB[i]? = some b) (hi : i + k + 1 = BB.length) (c : Nat) :
 (∀ a, a ≤ 61 → Bnd (hgF b i (putU (bmsF BB (ldsF LL LL.length) k) i 30 (wtR b)) a) c (Bb c k + wtD BB i * (wtR b c).natAbs)) ∧
 (∀ a : Nat, a < 61 → (lft b.lo b.hi a ((putU (bmsF BB (ldsF LL LL.length) k) i 30 (wtR b)).u i a) c).natAbs ≤ Bb c k + wtD BB i * (wtR b c).natAbs ∧ (rgt b.lo b.hi a ((putU (bmsF BB (ldsF LL LL.length) k) i 30 (wtR b)).u i a) c).natAbs ≤ Bb c k + wtD BB i * (wtR b c).natAbs) ∧
 Bnd (putF (bmG b i (bmsF BB (ldsF LL LL.length) k)) b.ab b.aa ((bmG b i (bmsF BB (ldsF LL LL.length) k)).h i 0)) c (Bb c k + wtD BB i * (wtR b c).natAbs) ∧ Inv (wtD BB) (bmF b i (bmsF BB (ldsF LL LL.length) k)) i c (Bb c k + wtD BB i * (wtR b c).natAbs) :=
 Inv.beam (wt := wtD BB) (F := bmsF BB (ldsF LL LL.length) k) (i := i) (c := c) (B := Bb c k) (by have := inv_bms hr c k (by omega); rwa [show BB.length - k = i + 1 from by omega] at this)
  (fun c' => by rw [bms_h _ _ _ _ (by omega), lds_h]; rfl) (bm_at hr hb) (span10 (bmOk_iff.1 (bm_at hr hb)).2.2.1) (fun j hj => Nat.pow_pos (by omega)) (wtD_on (rigOk_iff.1 hr).2.2.2.1 hb).1 (wtD_on (rigOk_iff.1 hr).2.2.2.1 hb).2
theorem Bb_le {k : Nat} (c : Nat) (hk : k ≤ BB.length) : Bb c k ≤ 5694624000000000 := by
 rw [rigOk_iff] at hr
 unfold Bb
 split
 · have := Nat.mul_le_mul_right 474552000000000 (show k ≤ 12 by omega); omega
 · omega
omit hr in
theorem rows_of {F : Fr} (h : ∀ c, ∃ B, Bnd F c B ∧ B ≤ 5694624000000000) : rowsB F :=
 ⟨fun j c => by obtain ⟨B, h1, h2⟩ := h c; have := h1.1 j; omega, fun j k c => by obtain ⟨B, h1, h2⟩ := h c; have := h1.2.1 j k; omega, fun j a c => by obtain ⟨B, h1, h2⟩ := h c; have := h1.2.2 j a; omega⟩
theorem frB_of : FrB BB LL := by
 have hw0 : ∀ I j, j < I → 1 ≤ wtD BB j := fun I j _ => Nat.pow_pos (by omega)
 refine ⟨fun k hk => rows_of fun c => ⟨_, (inv_lds hr c k hk).bnd (hw0 _), ?_⟩, fun k hk => rows_of fun c => ⟨_, (inv_bms hr c k hk).bnd (hw0 _), Bb_le hr c hk⟩, fun k i b hb hi => ⟨fun c => ?_, fun a ha => rows_of fun c => ⟨_, (beam_bd hr hb hi c).1 a ha, ?_⟩⟩,
  fun k i b hb hi a ha => ⟨fun c => ?_, fun c => ?_⟩, fun k i b hb hi => rows_of fun c => ⟨_, (beam_bd hr hb hi c).2.2.1, ?_⟩⟩
 · unfold Bl; split <;> omega
 · have hok := bm_at hr hb
   rw [bmOk_iff] at hok
   have := wtR_abs hok.2.2.2.2.2.1 c
   split at this <;> omega
 · exact Nat.le_trans (wt_add hr hb c k) (Bb_le hr c (by omega))
 · have := (beam_bd hr hb hi c).2.1 a ha
   have := Nat.le_trans (wt_add hr hb c k) (Bb_le hr c (by omega))
   rw [hgF_u]
   omega
 · have := (beam_bd hr hb hi c).2.1 a ha
   have := Nat.le_trans (wt_add hr hb c k) (Bb_le hr c (by omega))
   rw [hgF_u]
   omega
 · exact Nat.le_trans (wt_add hr hb c k) (Bb_le hr c (by omega))
theorem frF_bnd (c : Nat) : Bnd (frF BB LL) c (Bb c BB.length) := (inv_bms hr c BB.length (Nat.le_refl _)).bnd fun j _ => Nat.pow_pos (by omega)
end
end Go.Proofs.Ytfbokllafdnglaa
namespace Go.Proofs.Ytfbokllafdnglaa
open Go Tx Go.RowKit
set_option linter.unusedSimpArgs false
set_option linter.unusedVariables false
abbrev I64 (n : Int) : Prop := -9223372036854775808 ≤ n ∧ n ≤ 9223372036854775807
def shI : Shp := .int .i64
def shB : Shp := .agg [.int .i64, .int .i64, .agg [.int .i64, .int .i64], .agg [.int .i64, .int .i64], .int .i64, .int .i64]
def shL : Shp := .agg [.agg [.int .i64, .int .i64], .int .u8, .int .i64, .int .i64]
def shR : Shp := .agg [.sl 1 shI, .sl 8 shB, .agg [.int .i64, .int .i64, .int .i64], .sl 5 shL]
theorem op_slc {α : Type} {w : World} {sz : Nat} {e : Shp} {f : α → List Value} {Q : α → Prop} (he : ∀ es, e.rd w es → ∃ x, es = f x ∧ Q x) {cs : List Value} (h : (Shp.sl sz e).rd w cs) :
 ∃ (o : Option Addr) (c : Nat) (xs : List α), cs = [.slice o xs.length c] ∧ Rd sz f (.slice o xs.length c) xs w ∧ xs.length ≤ 9223372036854775807 ∧ ∀ x ∈ xs, Q x := by
 unfold Shp.rd at h
 rcases h with rfl | ⟨a, n, c, rfl, h1, h2, h3⟩
 · exact ⟨none, 0, [], rfl, .inl ⟨rfl, rfl⟩, by simp, fun x hx => by simp at hx⟩
 · obtain ⟨xs, hl, hb⟩ := list_of (Q := fun i (x : α) => (∀ j v, (f x)[j]? = some v → w.cell? ((a.add (i * sz)).add j) = some v) ∧ Q x) n fun i hi => by
    obtain ⟨es, _, e2, e3⟩ := h3 i hi
    obtain ⟨x, rfl, hx⟩ := he es e3
    exact ⟨x, e2, hx⟩
   subst hl
   exact ⟨some a, c, xs, rfl, .inr ⟨a, c, rfl, fun k b hk => (hb k b hk).1⟩, by unfold maxLen at h2; omega, fun x hx => by
    obtain ⟨k, hk⟩ := List.mem_iff_getElem?.1 hx
    exact (hb k x hk).2⟩
theorem op_i {w : World} {es : List Value} (h : shI.rd w es) : ∃ n : Int, es = iF n ∧ I64 n := by
 simp only [shI, Shp.rd] at h
 obtain ⟨n, rfl, g⟩ := h
 exact ⟨n, rfl, wf64 g⟩
def bmI (b : Bm) : Prop := I64 b.lo ∧ I64 b.hi ∧ I64 b.ab ∧ I64 b.aa ∧ I64 b.bb ∧ I64 b.ba ∧ I64 b.wt ∧ I64 b.cap
theorem op_b {w : World} {es : List Value} (h : shB.rd w es) : ∃ b : Bm, es = b.cs ∧ bmI b := by
 simp only [shB, Shp.rd, Shp.rds] at h
 obtain ⟨_, _, rfl, ⟨n0, rfl, g0⟩, _, _, rfl, ⟨n1, rfl, g1⟩, _, _, rfl, ⟨_, _, rfl, ⟨n2, rfl, g2⟩, _, _, rfl, ⟨n3, rfl, g3⟩, rfl⟩, _, _, rfl, ⟨_, _, rfl, ⟨n4, rfl, g4⟩, _, _, rfl, ⟨n5, rfl, g5⟩, rfl⟩, _, _, rfl, ⟨n6, rfl, g6⟩, _, _, rfl, ⟨n7, rfl, g7⟩, rfl⟩ := h
 exact ⟨⟨n0, n1, n2, n3, n4, n5, n6, n7⟩, rfl, wf64 g0, wf64 g1, wf64 g2, wf64 g3, wf64 g4, wf64 g5, wf64 g6, wf64 g7⟩
def ldI (l : Ld) : Prop := I64 l.beam ∧ I64 l.at' ∧ l.kind ≤ 255 ∧ I64 l.lo ∧ I64 l.hi
theorem op_l {w : World} {es : List Value} (h : shL.rd w es) : ∃ l : Ld, es = l.cs ∧ ldI l := by
 simp only [shL, Shp.rd, Shp.rds] at h
 obtain ⟨_, _, rfl, ⟨_, _, rfl, ⟨n0, rfl, g0⟩, _, _, rfl, ⟨n1, rfl, g1⟩, rfl⟩, _, _, rfl, ⟨n2, rfl, g2⟩, _, _, rfl, ⟨n3, rfl, g3⟩, _, _, rfl, ⟨n4, rfl, g4⟩, rfl⟩ := h
 have h2 := wf8 g2
 obtain ⟨k, rfl⟩ := Int.eq_ofNat_of_zero_le h2.1
 exact ⟨⟨n0, n1, k, n3, n4⟩, rfl, wf64 g0, wf64 g1, by show k ≤ 255; omega, wf64 g3, wf64 g4⟩
theorem op_ints {w : World} {v : Value} (h : (Shp.sl 1 shI).rd w [v]) : ∃ (o : Option Addr) (c : Nat) (xs : List Int), v = .slice o xs.length c ∧ Rd 1 iF (.slice o xs.length c) xs w ∧ xs.length ≤ 9223372036854775807 ∧ ∀ x ∈ xs, I64 x := by
 obtain ⟨o, c, xs, h1, h2, h3, h4⟩ := op_slc (f := iF) (Q := I64) (fun es h => op_i h) h
 simp only [List.cons.injEq, and_true] at h1
 exact ⟨o, c, xs, h1, h2, h3, h4⟩
structure RigX (r : Rig) (PP : List Int) (BB : List Bm) (LL : List Ld) (w : World) : Prop where
 p : Rd 1 iF (.slice r.po PP.length r.pc) PP w
 b : Rd 8 Bm.cs (.slice r.bo BB.length r.bc) BB w
 l : Rd 5 Ld.cs (.slice r.lo LL.length r.lc) LL w
 pn : r.pn = PP.length
 bn : r.bn = BB.length
 ln : r.ln = LL.length
 pl : PP.length ≤ 9223372036854775807
 bl : BB.length ≤ 9223372036854775807
 ll : LL.length ≤ 9223372036854775807
 pi : ∀ n ∈ PP, I64 n
 bi : ∀ b ∈ BB, bmI b
 li : ∀ l ∈ LL, ldI l
 f0 : I64 r.f0
 f1 : I64 r.f1
 f2 : I64 r.f2
theorem RigX.below {r : Rig} {PP : List Int} {BB : List Bm} {LL : List Ld} {w w' : World} (h : RigX r PP BB LL w) (hb : Below w.heap.size w w') : RigX r PP BB LL w' :=
 ⟨h.p.below hb, h.b.below hb, h.l.below hb, h.pn, h.bn, h.ln, h.pl, h.bl, h.ll, h.pi, h.bi, h.li, h.f0, h.f1, h.f2⟩
theorem RigX.rin {r : Rig} {PP : List Int} {BB : List Bm} {LL : List Ld} {w : World} (h : RigX r PP BB LL w) (h1 : PP.length ≤ 1000000) (h2 : BB.length ≤ 1000000) (h3 : LL.length ≤ 1000000) : RigIn r PP BB LL w :=
 ⟨h.p, h.b, h.l, h.pn, h.bn, h.ln, h1, h2, h3⟩
theorem op_rig {w : World} {cs : List Value} (h : shR.rd w cs) : ∃ (r : Rig) (PP : List Int) (BB : List Bm) (LL : List Ld), cs = r.cs ∧ RigX r PP BB LL w := by
 unfold shR at h
 simp only [Shp.rd.eq_4, Shp.rd.eq_3, Shp.rds] at h
 obtain ⟨_, _, rfl, h1, _, _, rfl, h2, _, _, rfl, h3, _, _, rfl, h4, rfl⟩ := h
 obtain ⟨po, pc, PP, rfl, p1, p2, p3⟩ := op_slc (f := iF) (Q := I64) (fun es h => op_i h) h1
 obtain ⟨bo, bc, BB, rfl, b1, b2, b3⟩ := op_slc (f := Bm.cs) (Q := bmI) (fun es h => op_b h) h2
 obtain ⟨lo, lc, LL, rfl, l1, l2, l3⟩ := op_slc (f := Ld.cs) (Q := ldI) (fun es h => op_l h) h4
 simp only [Shp.rd, Shp.rds] at h3
 obtain ⟨_, _, rfl, ⟨n0, rfl, g0⟩, _, _, rfl, ⟨n1, rfl, g1⟩, _, _, rfl, ⟨n2, rfl, g2⟩, rfl⟩ := h3
 exact ⟨⟨po, PP.length, pc, bo, BB.length, bc, n0, n1, n2, lo, LL.length, lc⟩, PP, BB, LL, rfl, p1, b1, l1, rfl, rfl, rfl, p2, b2, l2, p3, b3, l3, wf64 g0, wf64 g1, wf64 g2⟩
end Go.Proofs.Ytfbokllafdnglaa
