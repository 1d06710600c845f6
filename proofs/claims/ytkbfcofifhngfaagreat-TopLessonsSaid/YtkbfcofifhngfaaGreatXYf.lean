/- Part 6 of the proof: texts merged. -/
import Derived.Test.YtkbfcofifhngfaaGreatXYe
set_option maxHeartbeats 8000000
set_option maxRecDepth 100000
set_option linter.unusedSectionVars false
set_option linter.unusedSimpArgs false
set_option linter.unusedVariables false
namespace Go.Proofs.YtkbfcofifhngfaaGreat
open Go Tx Go.RowKit
def eD : List Mk := [⟨2, 3, 4, true⟩]
theorem eD_ok : RoadOk eD 1 := ⟨by decide, by decide, fun m hm => by
 obtain rfl : m = ⟨2, 3, 4, true⟩ := by simpa [eD] using hm
 exact ⟨by decide, by decide, by decide⟩⟩
theorem eD_buy {y : BuyR} (h : y.Ok eD 1) : y.er = 0 ∧ y.L = [0] ∧ y.cost = 10 := by
 obtain ⟨⟨hb, -⟩, hr⟩ := h
 have hz := hb.z
 have hl : eD.length = 1 := rfl
 rw [hl] at hz
 have hf := hb.f 0 (Nat.le_refl _) (by decide)
 have ht := hb.t 0 (Nat.le_refl _) (by decide)
 have hpr : prO eD 0 1 = 10 := by decide
 have hfd : fdB eD 1 0 1 = true := by decide
 have e0 : atI y.B 0 = atI y.A 0 := by
  unfold BtOk at ht
  rwa [if_neg (by decide)] at ht
 have hle := hf.le rfl 1 (by decide) (by decide) hfd
 rw [hpr, hz.1] at hle
 have h10 : atI y.A 0 = 10 := by
  rcases hf.at' with h1 | ⟨_, s, h1, h2, h3, h4⟩
  · omega
  · obtain rfl : s = 1 := by omega
    rw [hpr, hz.1] at h4; omega
 rcases hr with ⟨h1, h2, _⟩ | ⟨h1, h2, h3, h4, h5⟩
 · omega
 · refine ⟨h1, ?_, by omega⟩
   rcases h4 with ⟨_, h6, _⟩ | ⟨t, R, h6, h7, _, _, _, h8⟩
   · omega
   · obtain rfl : t = 0 := by omega
     cases R with
     | nil => exact h6
     | cons s R => have := h8.1; omega
theorem eD_all {y : BuyR} (h : y.Ok eD 1) : ∃ A B a pc to tn tc, y = ⟨A, B, [0], some a, pc, to, tn, tc, 10, 0⟩ := by
 obtain ⟨h1, h2, h3⟩ := eD_buy h
 obtain ⟨a, ha⟩ := h.1.2 (by rw [h2]; exact List.cons_ne_nil _ _)
 obtain ⟨A, B, L, po, pc, to, tn, tc, cost, er⟩ := y
 dsimp only at h1 h2 h3 ha
 exact ⟨A, B, a, pc, to, tn, tc, by rw [h1, h2, h3, ha]⟩
theorem eD_rd {A B : List Int} {a : Addr} {pc : Nat} {to : Option Addr} {tn tc : Nat} {w : World} (h : BuyR.In ⟨A, B, [0], some a, pc, to, tn, tc, 10, 0⟩ w) : ∀ j v, (nF 0)[j]? = some v → w.cell? ((a.add ((0 : Int).toNat * 1)).add j) = some v :=
 rd_ati (k := 0) (h rfl).1 rfl
theorem eats_ok (w : World) : Calls Tryz.prog 30 #[] w fun e w' => e = .returned (.bool true) ∧ Below w.heap.size w w' := by
 have h70 := fun (a c : Nat) (w' : World) (hc : 1 ≤ c) (hr : Rd 4 mkF (.slice (some ⟨a, 0, none⟩) 1 c) eD w') => Buy_ok eD 1 (some ⟨a, 0, none⟩) c w' ⟨hr, hc⟩ eD_ok
 refine calls_val env mixed Tryz.func30 has30 Tryz.ntmps30 [] (by simp) ?_
 repeat'
  conv => whnf
  first
   |refine zB ?_|refine zD ?_|refine zG ?_|refine splT ?_
   |((with_reducible show CallEv _ _ 70 ..); (refine callF [0] (fun y : {y : BuyR // y.Ok eD 1} => y.1.v) (fun y w2 => y.1.In w2) (fun β w' hbk hbw => h70 (β 0) 1 w' (Nat.le_refl _) (Rd.of_cells (sz := 4) (f := mkF) (bs := eD) (fun _ => rfl) rfl (hbk 0 (by simp) _ rfl))) ?_; rintro ⟨y, hy⟩; obtain ⟨A, B, a, pc, to, tn, tc, rfl⟩ := eD_all hy; dsimp only [BuyR.v, List.length_singleton]))
   |refine eL [iv 0] ⟨⟨rfl, fun w' hw' => eD_rd hw'.2⟩, ?_⟩
 all_goals exact ⟨fun β => rfl, fun w' h => h.1⟩
def TbP (o : Option Addr) (R : List Lr) : Prop := (R ≠ [] → ∃ ad, o = some ad) ∧ ∀ r ∈ R, r.L ≠ [] → ∃ ad, r.o = some ad
theorem TbL.ptrs {o : Option Addr} {c : Nat} {R : List Lr} {w : World} (h : TbL o c R w) : TbP o R :=
 ⟨fun hne => by obtain ⟨_, ad, h1, _⟩ := h.t.ptr (List.length_pos_iff.2 hne); exact ⟨ad, h1⟩, fun r hr hne => by obtain ⟨_, ad, h1, _⟩ := (h.r r hr).ptr (List.length_pos_iff.2 hne); exact ⟨ad, h1⟩⟩
structure TbR where
 o : Option Addr
 c : Nat
 R : List Lr
theorem yatZ {L : List Int} {k : Nat} {n z : Int} (hz : z = k) (h : L[k]? = some n) : ∀ j v, [iv n][j]? = some v → (L.flatMap iF)[z.toNat * 1 + j]? = some v := by
 subst hz; exact yatS h
theorem ystZ {L : List Int} {k : Nat} {z : Int} (hz : z = k) (hk : k < L.length) (n : Int) : z.toNat * 1 + [iv n].length ≤ (L.flatMap iF).length := by
 subst hz; exact ystS hk n
theorem ystEZ {L : List Int} {k : Nat} {n z : Int} (hz : z = k) (hk : k < L.length) : (L.flatMap iF).take (z.toNat * ti3.size) ++ [iv n] ++ (L.flatMap iF).drop (z.toNat * ti3.size + [iv n].length) = (L.set k n).flatMap iF := by
 subst hz; exact ystE hk n
def st9 (n : Nat) : Nat → SV
 | 0 => .v (.slice none 0 0)
 | _ + 1 => .os 1 2 n
def me9 (n : Nat) (xs : List Value) (b : Blk) : Nat → List (Nat × Blk)
 | 0 => [(0, b)]
 | _ + 1 => [(0, b), (1, .own 2 n 1 xs 3)]
theorem lenI (L : List Int) : (L.flatMap iF).length = L.length * 1 := by
 induction L with
 | nil => rfl
 | cons a L ih => rw [List.flatMap_cons, List.length_append, ih, List.length_cons]; show 1 + _ = (_ + 1) * 1; omega
theorem oneI (L : List Int) : ∀ v ∈ L.flatMap iF, v.oneCell' = true := fun v hv => by
 obtain ⟨n, _, h⟩ := List.mem_flatMap.1 hv
 have : v = iv n := by simpa using h
 subst this; rfl
theorem own_cap0 {L : List Int} {b cb : Nat} {w : World} (h : w.ownsRow 0 3 1 (.slice (some ⟨b, 0, none⟩) (0 + L.length) cb) (0 + L.length) ([] ++ L.flatMap iF)) : L.length ≤ cb := by
 rcases h.2 with h | ⟨_, _, _, h, _, _, h2, _⟩
 · cases h.1
 · simp only [Value.slice.injEq] at h
   omega
theorem own_weary {d wk : Int} {L : List Int} {i b cb : Nat} {w : World} (hw : WyIn d wk L i cb) (h : w.ownsRow 0 3 1 (.slice (some ⟨b, 0, none⟩) (0 + L.length) cb) (0 + L.length) ([] ++ L.flatMap iF)) :
 Calls Tryz.prog 31 #[.agg #[iv d, iv wk], .slice (some ⟨b, 0, none⟩) (0 + L.length) cb] w fun e w' => e = .returned (wyV i L.length) ∧ Below w.heap.size w w' := by
 rw [Nat.zero_add] at h ⊢
 exact Weary_ok d wk L i _ cb w hw (Rd.of_owns (sz := 1) (f := iF) (fun _ => rfl) rfl rfl h)
theorem st9_0 {n t : Nat} (h : t = 0) : st9 n t = .v (.slice none 0 0) := by subst h; rfl
theorem st9_1 {n t : Nat} (h : 1 ≤ t) : st9 n t = .os 1 2 n := by obtain ⟨t, rfl⟩ : ∃ t', t = t' + 1 := ⟨t - 1, by omega⟩; rfl
theorem me9_0 {n t : Nat} {xs : List Value} {b : Blk} (h : t = 0) : me9 n xs b t = [(0, b)] := by subst h; rfl
theorem me9_1 {n t : Nat} {xs : List Value} {b : Blk} (h : 1 ≤ t) : me9 n xs b t = [(0, b), (1, .own 2 n 1 xs 3)] := by obtain ⟨t, rfl⟩ : ∃ t', t = t' + 1 := ⟨t - 1, by omega⟩; rfl
theorem tmod8 (t : Nat) : (t : Int).tmod 8 = ((t % 8 : Nat) : Int) := by
 rw [show (8 : Int) = ((8 : Nat) : Int) from rfl, Int.ofNat_tmod]
theorem lg0_y {A : List Int} {t : Nat} (h : t % 8 = 0) : lg0 A t = A ++ [0] := by unfold lg0; rw [if_pos h]
theorem lg0_n {A : List Int} {t : Nat} (h : ¬ t % 8 = 0) : lg0 A t = A := by unfold lg0; rw [if_neg h]
theorem Ls_loop (sl ro su k : Int) (go to : Option Addr) (gc tc : Nat) (G : List Rw) (T : List Tc) (o : Option Addr) (c : Nat) (R : List Lr) (w : World) (h : ScIn ⟨sl, ro, su, go, gc, G, to, tc, T⟩ w) (hB : ScB ⟨sl, ro, su, go, gc, G, to, tc, T⟩) (hv : scOk (Sc.d ⟨sl, ro, su, go, gc, G, to, tc, T⟩) = true) (hfit : Fit (Sc.d ⟨sl, ro, su, go, gc, G, to, tc, T⟩) (R.map Lr.L)) (hl : 1 ≤ R.length ∧ R.length ≤ 40) (hrl : ∀ r ∈ R, r.L.length ≤ 10) (hk : 1 ≤ k ∧ k ≤ 60) :
 VC Tryz.prog (rest 6 body10) ⟨199, [(2, .ptr 0 0), (5, .v (.slice o R.length c)), (7, .v (iv k))], [(0, .cells [.v (iv sl), .v (iv ro), .v (iv su), .v (.slice go G.length gc), .v (.slice to T.length tc)] 25)], 1, fun w' => Below w.heap.size w w' ∧ St w.heap.size (TbL o c R) w', z0⟩ (endΦ env Tryz.f10 fun v σ => (∀ β, v.c β = .bool true) ∧ ∀ w', σ.h w' → Below w.heap.size w w') := by
 have h30 := fun w' => eats_ok w'
 refine VC.pure (p := TbP o R) (fun w' h => h.2.now.ptrs) fun ⟨hp1, hp2⟩ => ?_
 obtain ⟨ad, rfl⟩ := hp1 (fun e => by rw [e] at hl; cases hl.1)
 refine VC.of env mixed ?_
 skip
 refine loopN 1 (fun g : Nat => [(2, .ptr 0 0), (5, .v (.slice (some ad) R.length c)), (7, .v (iv k)), (8, .v (iv g))]) (fun _ => [(0, .cells [.v (iv sl), .v (iv ro), .v (iv su), .v (.slice go G.length gc), .v (.slice to T.length tc)] 25)]) (fun g => g ≤ G.length) (fun g => G.length - g) 0 (Nat.zero_le _) ⟨rfl, rfl, rfl, rfl, trivial⟩ ⟨rfl, trivial⟩ (fun _ _ => ⟨rfl, rfl⟩) ?_
 intro g hg
 have hgl8 : G.length ≤ 1000000 := hB.g
 rcases Nat.lt_or_ge g G.length with hgl | hgl
 · have hgS := hfit.gS1 g
   obtain ⟨row, hrow⟩ : ∃ b, G[g]? = some b := ⟨_, List.getElem?_eq_getElem hgl⟩
   have hwant := hfit.want hv (g := g) (by show g < (G.map Rw.xs).length; rw [List.length_map]; exact hgl)
   have hrv : (Sc.d ⟨sl, ro, su, go, gc, G, to, tc, T⟩).G.getD g [] = row.xs := by
    show (G.map Rw.xs).getD g [] = _
    rw [List.getD_eq_getElem?_getD, List.getElem?_map, hrow]; rfl
   rw [hrv] at hwant
   have hlen := fun t => lgS_len k g (R.map Lr.L) t
   have hQb := fun t => lgS_b hk hgS t
   have hQ0 := fun t => lg0_ne k g (R.map Lr.L) t
   have hQs : ∀ t L, (R.map Lr.L)[t]? = some L → lgS k g (R.map Lr.L) (t + 1) = addL (lg0 (lgS k g (R.map Lr.L) t) t) (k * gS g L) := fun t L ht => by
    rw [lgS, List.getD_eq_getElem?_getD, ht]; rfl
   have hWs : ∀ t L, (R.map Lr.L)[t]? = some L → hS g ((R.map Lr.L).take (t + 1)) = hS g ((R.map Lr.L).take t) + gS g L := fun t L ht => hS_step g ht
   have hWb : ∀ t, 0 ≤ hS g ((R.map Lr.L).take t) ∧ hS g ((R.map Lr.L).take t) ≤ 40 := fun t => by
    have h1 := sum_bt (f := gS g) (M := 1) (X := R.map Lr.L) (fun l hl => ⟨gS_nn g l, hgS l hl⟩) t
    rw [List.length_map] at h1
    unfold hS
    omega
   have hsum := lgS_sum k g (R.map Lr.L) R.length (by rw [List.length_map]; exact Nat.le_refl _)
   have hWl : hS g ((R.map Lr.L).take R.length) = row.xs.sum := by rw [List.take_of_length_le (by rw [List.length_map]; exact Nat.le_refl _)]; exact hwant
   obtain ⟨W, hW⟩ : ∃ W : Nat → Int, W = fun t => hS g ((R.map Lr.L).take t) := ⟨_, rfl⟩
   obtain ⟨Q, hQ⟩ : ∃ Q : Nat → List Int, Q = lgS k g (R.map Lr.L) := ⟨_, rfl⟩
   have eW : ∀ t, hS g ((R.map Lr.L).take t) = W t := fun t => by rw [hW]
   have hW0 : W 0 = 0 := by rw [hW]; rfl
   have hQz : Q 0 = [] := by rw [hQ]; rfl
   simp only [eW, ← hQ] at hWs hWb hsum hWl hlen hQb hQ0 hQs
   clear hW hQ eW hwant hrv
   repeat'
    conv => whnf
    first
     |refine zB ?_
     |(refine splD ?_ ?_ <;> intro hc <;> first|(exfalso; omega)|skip)
   conv => whnf
   refine loopN 3 (fun t : Nat => [(2, .ptr 0 0), (5, .v (.slice (some ad) R.length c)), (7, .v (iv k)), (8, .v (iv g)), (9, st9 (Q t).length t), (10, .v (iv (W t))), (11, .v (iv t))]) (fun t => me9 (Q t).length ((Q t).flatMap iF) (.cells [.v (iv sl), .v (iv ro), .v (iv su), .v (.slice go G.length gc), .v (.slice to T.length tc)] 25) t) (fun t => t ≤ R.length) (fun t => R.length - t) 0 (Nat.zero_le _) ⟨rfl, rfl, rfl, rfl, rfl, by rw [hW0]; rfl, rfl, trivial⟩ ⟨rfl, trivial⟩ (fun t _ => by cases t <;> exact ⟨rfl, rfl⟩) ?_
   intro t ht
   rcases Nat.lt_or_ge t R.length with htl | htl
   · obtain ⟨⟨so, sc, L⟩, hx0⟩ : ∃ b, R[t]? = some b := ⟨_, List.getElem?_eq_getElem htl⟩
     have hL := hrl _ (List.mem_of_getElem? hx0)
     have hp3 := hp2 _ (List.mem_of_getElem? hx0)
     have hr := fun (w' : World) (h : TbL (some ad) c R w') => h.r _ (List.mem_of_getElem? hx0)
     have e1 := fun (w' : World) (h : TbL (some ad) c R w') => rd_ati h.t hx0
     dsimp only at hL hp3 hr
     have htL : (R.map Lr.L)[t]? = some L := by rw [List.getElem?_map, hx0]; rfl
     have hg1 := hgS L (List.mem_of_getElem? htL)
     have hAb : ∀ v, 0 ≤ v ∧ v ≤ 60 → LgB (addL (lg0 (Q t) t) v) (t + 1) := fun v hv => lg0_b (hQb t) hv (hQ0 t)
     have hWb := hWb t
     have hlq := hlen t
     have hk1 : ∀ q, 0 ≤ q ∧ q ≤ 1 → 0 ≤ k * q ∧ k * q ≤ 60 := fun q hq => by
      rcases (by omega : q = 0 ∨ q = 1) with e | e <;> rw [e] <;> omega
     have htm := tmod8 t
     by_cases h8 : t % 8 = 0
     · have hm8 : (t : Int).tmod 8 = ((0 : Nat) : Int) := by rw [htm, h8]
       rcases Nat.eq_zero_or_pos t with ht0 | ht0
       · have hQe : Q t = [] := by rw [ht0]; exact hQz
         have hlg : lg0 (Q t) t = [0] := by rw [lg0_y h8, hQe]; rfl
         rw [hlg] at hAb
         have hA0 : ([0] : List Int) ≠ [] := List.cons_ne_nil _ _
         have hA0l : ([0] : List Int).length = 0 + 1 := rfl
         rw [st9_0 ht0, me9_0 ht0]
         repeat'
          conv => whnf
          first
           |refine zB ?_|refine zI ?_|refine splT ?_
           |(refine splD ?_ ?_ <;> intro hc <;> first|(exfalso; omega)|skip)
           |refine Exists.intro (α := Int) ((0 : Nat) : Int) ⟨⟨by omega, hm8⟩, ?_⟩
         conv => whnf
         refine loopN 6 (fun x : Nat × List Int => [(2, .ptr 0 0), (5, .v (.slice (some ad) R.length c)), (7, .v (iv k)), (8, .v (iv g)), (9, .os 4 5 (0 + 1)), (10, .v (iv (W t + gS g (L.take x.1)))), (11, .v (iv t)), (12, .v (iv x.1))]) (fun x => [(0, .cells [.v (iv sl), .v (iv ro), .v (iv su), .v (.slice go G.length gc), .v (.slice to T.length tc)] 25), (4, .own 5 (0 + 1) 1 (x.2.flatMap iF) 3)]) (fun x => x.1 ≤ L.length ∧ x.2 = addL ([0]) (k * gS g (L.take x.1))) (fun x => L.length - x.1) (0, [0]) ⟨Nat.zero_le _, by show [0] = addL ([0]) (k * 0); rw [Int.mul_zero, addL_zero hA0]⟩ ⟨rfl, rfl, rfl, rfl, rfl, by show lk _ 10 = some (SV.v (iv (W t + 0))); rw [Int.add_zero]; rfl, rfl, rfl, trivial⟩ ⟨rfl, rfl, trivial⟩ (fun _ _ => ⟨rfl, rfl⟩) ?_
         rintro ⟨i, A⟩ ⟨hi, hA⟩
         dsimp only at hi hA ⊢
         have hAl : A.length = 0 + 1 := by rw [hA, addL_len]; exact hA0l
         have hAn : A ≠ [] := fun e => by rw [e] at hAl; cases hAl
         have hgi := gS_take g L i
         have hgn := gS_nn g (L.take i)
         rcases Nat.lt_or_ge i L.length with hil | hil
         · obtain ⟨⟨x1, x2, x3⟩, hx⟩ : ∃ b, L[i]? = some b := ⟨_, List.getElem?_eq_getElem hil⟩
           obtain ⟨ad2, rfl⟩ := hp3 (fun e => by rw [e] at hil; cases hil)
           have hst := gS_step g hx
           have e2 := fun (w' : World) (h : TbL (some ad) c R w') => rd_fld (hr w' h) hx 0 _ rfl
           have hv0 : A[0]? = some (atI A (0)) := atI_get (by omega)
           have hbd := (hAb (k * gS g (L.take i)) (hk1 _ ⟨hgn, by omega⟩)).b (0)
           rw [← hA] at hbd
           have hadd : A.set (0) (atI A (0) + k) = addL A k := by unfold addL; rw [hAl, Nat.add_sub_cancel]
           generalize hvv : atI A (0) = vv at *
           generalize hQi : gS g (L.take i) = q at *
           by_cases hxg : x1 = (g : Int)
           · have hq1 : gS g (L.take (i + 1)) = q + 1 := by rw [hst, decide_eq_true hxg]; rfl
             repeat'
              conv => whnf
              first
               |refine zB ?_|refine zC ?_|refine zF ?_|refine zG ?_
               |(refine splD ?_ ?_ <;> intro hc <;> first|(exfalso; omega)|skip)
               |refine eL [.slice (some ad2) L.length sc] ⟨⟨rfl, fun w' hw' => e1 w' hw'.2.now⟩, ?_⟩
               |refine eL [iv x1] ⟨⟨rfl, fun w' hw' => e2 w' hw'.2.now⟩, ?_⟩
               |refine eL [iv vv] ⟨⟨rfl, yatZ (by omega) hv0⟩, ?_⟩
               |(refine And.intro (a := _ + _ ≤ List.length _) (ystZ (k := 0) (L := A) (by omega) (by omega) _) ?_; rw [ystEZ (k := 0) (L := A) (by omega) (by omega)])
             all_goals exact ⟨(i + 1, A.set (0) (vv + k)), ⟨by show i + 1 ≤ L.length; omega, by show A.set (0) (vv + k) = _; rw [hadd, hA, addL_add hA0, hq1, Int.mul_add, Int.mul_one]⟩, by show L.length - (i + 1) < L.length - i; omega, Ent.weak rfl ⟨rfl, rfl, rfl, rfl, rfl, by dsimp only; rw [hq1, ← Int.add_assoc]; rfl, rfl, rfl, trivial⟩ ⟨rfl, rfl, trivial⟩ fun _ h => h⟩
           · have hq1 : gS g (L.take (i + 1)) = q := by rw [hst, decide_eq_false hxg]; exact Int.add_zero q
             repeat'
              conv => whnf
              first
               |refine zB ?_|refine zF ?_|refine zG ?_
               |(refine splD ?_ ?_ <;> intro hc <;> first|(exfalso; omega)|skip)
               |refine eL [.slice (some ad2) L.length sc] ⟨⟨rfl, fun w' hw' => e1 w' hw'.2.now⟩, ?_⟩
               |refine eL [iv x1] ⟨⟨rfl, fun w' hw' => e2 w' hw'.2.now⟩, ?_⟩
             all_goals exact ⟨(i + 1, A), ⟨by show i + 1 ≤ L.length; omega, by show A = _; rw [hq1]; exact hA⟩, by show L.length - (i + 1) < L.length - i; omega, Ent.weak rfl ⟨rfl, rfl, rfl, rfl, rfl, by dsimp only; rw [hq1]; rfl, rfl, rfl, trivial⟩ ⟨rfl, rfl, trivial⟩ fun _ h => h⟩
         · rw [List.take_of_length_le hil] at hA
           have hAQ : A = Q (t + 1) := by rw [hA, hQs t L htL, hlg]
           have hWt : W t + gS g (L.take i) = W (t + 1) := by rw [List.take_of_length_le hil, hWs t L htL]
           rw [hWt]
           subst hAQ
           repeat'
            conv => whnf
            first
             |refine zF ?_|refine zG ?_
             |(refine splD ?_ ?_ <;> intro hc <;> first|(exfalso; omega)|skip)
             |refine eL [.slice so L.length sc] ⟨⟨rfl, fun w' hw' => e1 w' hw'.2.now⟩, ?_⟩
           all_goals exact ⟨t + 1, by omega, by omega, Ent.ren (rho [(1, 4), (2, 5)]) rfl rfl ⟨rfl, rfl, rfl, rfl, by dsimp only [st9]; rw [hAl]; rfl, rfl, rfl, trivial⟩ ⟨rfl, by dsimp only [me9]; rw [hAl]; rfl, trivial⟩ fun _ h => h⟩
       · have hlg := lg0_y (A := Q t) h8
         rw [hlg] at hAb
         have hA0 : Q t ++ [0] ≠ [] := by simp
         have hA0l : (Q t ++ [0]).length = (Q t).length + 1 := by simp
         have e2f : (Q t ++ [0]).flatMap iF = (Q t).flatMap iF ++ [iv 0] := by rw [List.flatMap_append]; rfl
         rw [st9_1 ht0, me9_1 ht0]
         repeat'
          conv => whnf
          first
           |refine zB ?_|refine zH ?_|refine zI ?_|refine splT ?_
           |(refine splD ?_ ?_ <;> intro hc <;> first|(exfalso; omega)|skip)
           |refine Exists.intro (α := Int) ((0 : Nat) : Int) ⟨⟨by omega, hm8⟩, ?_⟩
         conv => whnf
         refine loopN 6 (fun x : Nat × List Int => [(2, .ptr 0 0), (5, .v (.slice (some ad) R.length c)), (7, .v (iv k)), (8, .v (iv g)), (9, .os 4 5 ((Q t).length + 1)), (10, .v (iv (W t + gS g (L.take x.1)))), (11, .v (iv t)), (12, .v (iv x.1))]) (fun x => [(0, .cells [.v (iv sl), .v (iv ro), .v (iv su), .v (.slice go G.length gc), .v (.slice to T.length tc)] 25), (4, .own 5 ((Q t).length + 1) 1 (x.2.flatMap iF) 3)]) (fun x => x.1 ≤ L.length ∧ x.2 = addL (Q t ++ [0]) (k * gS g (L.take x.1))) (fun x => L.length - x.1) (0, Q t ++ [0]) ⟨Nat.zero_le _, by show Q t ++ [0] = addL (Q t ++ [0]) (k * 0); rw [Int.mul_zero, addL_zero hA0]⟩ ⟨rfl, rfl, rfl, rfl, rfl, by show lk _ 10 = some (SV.v (iv (W t + 0))); rw [Int.add_zero]; rfl, rfl, rfl, trivial⟩ ⟨rfl, by dsimp only; rw [e2f]; rfl, trivial⟩ (fun _ _ => ⟨rfl, rfl⟩) ?_
         rintro ⟨i, A⟩ ⟨hi, hA⟩
         dsimp only at hi hA ⊢
         have hAl : A.length = (Q t).length + 1 := by rw [hA, addL_len]; exact hA0l
         have hAn : A ≠ [] := fun e => by rw [e] at hAl; cases hAl
         have hgi := gS_take g L i
         have hgn := gS_nn g (L.take i)
         rcases Nat.lt_or_ge i L.length with hil | hil
         · obtain ⟨⟨x1, x2, x3⟩, hx⟩ : ∃ b, L[i]? = some b := ⟨_, List.getElem?_eq_getElem hil⟩
           obtain ⟨ad2, rfl⟩ := hp3 (fun e => by rw [e] at hil; cases hil)
           have hst := gS_step g hx
           have e2 := fun (w' : World) (h : TbL (some ad) c R w') => rd_fld (hr w' h) hx 0 _ rfl
           have hv0 : A[(Q t).length]? = some (atI A ((Q t).length)) := atI_get (by omega)
           have hbd := (hAb (k * gS g (L.take i)) (hk1 _ ⟨hgn, by omega⟩)).b ((Q t).length)
           rw [← hA] at hbd
           have hadd : A.set ((Q t).length) (atI A ((Q t).length) + k) = addL A k := by unfold addL; rw [hAl, Nat.add_sub_cancel]
           generalize hvv : atI A ((Q t).length) = vv at *
           generalize hQi : gS g (L.take i) = q at *
           by_cases hxg : x1 = (g : Int)
           · have hq1 : gS g (L.take (i + 1)) = q + 1 := by rw [hst, decide_eq_true hxg]; rfl
             repeat'
              conv => whnf
              first
               |refine zB ?_|refine zC ?_|refine zF ?_|refine zG ?_
               |(refine splD ?_ ?_ <;> intro hc <;> first|(exfalso; omega)|skip)
               |refine eL [.slice (some ad2) L.length sc] ⟨⟨rfl, fun w' hw' => e1 w' hw'.2.now⟩, ?_⟩
               |refine eL [iv x1] ⟨⟨rfl, fun w' hw' => e2 w' hw'.2.now⟩, ?_⟩
               |refine eL [iv vv] ⟨⟨rfl, yatZ (by omega) hv0⟩, ?_⟩
               |(refine And.intro (a := _ + _ ≤ List.length _) (ystZ (k := (Q t).length) (L := A) (by omega) (by omega) _) ?_; rw [ystEZ (k := (Q t).length) (L := A) (by omega) (by omega)])
             all_goals exact ⟨(i + 1, A.set ((Q t).length) (vv + k)), ⟨by show i + 1 ≤ L.length; omega, by show A.set ((Q t).length) (vv + k) = _; rw [hadd, hA, addL_add hA0, hq1, Int.mul_add, Int.mul_one]⟩, by show L.length - (i + 1) < L.length - i; omega, Ent.weak rfl ⟨rfl, rfl, rfl, rfl, rfl, by dsimp only; rw [hq1, ← Int.add_assoc]; rfl, rfl, rfl, trivial⟩ ⟨rfl, rfl, trivial⟩ fun _ h => h⟩
           · have hq1 : gS g (L.take (i + 1)) = q := by rw [hst, decide_eq_false hxg]; exact Int.add_zero q
             repeat'
              conv => whnf
              first
               |refine zB ?_|refine zF ?_|refine zG ?_
               |(refine splD ?_ ?_ <;> intro hc <;> first|(exfalso; omega)|skip)
               |refine eL [.slice (some ad2) L.length sc] ⟨⟨rfl, fun w' hw' => e1 w' hw'.2.now⟩, ?_⟩
               |refine eL [iv x1] ⟨⟨rfl, fun w' hw' => e2 w' hw'.2.now⟩, ?_⟩
             all_goals exact ⟨(i + 1, A), ⟨by show i + 1 ≤ L.length; omega, by show A = _; rw [hq1]; exact hA⟩, by show L.length - (i + 1) < L.length - i; omega, Ent.weak rfl ⟨rfl, rfl, rfl, rfl, rfl, by dsimp only; rw [hq1]; rfl, rfl, rfl, trivial⟩ ⟨rfl, rfl, trivial⟩ fun _ h => h⟩
         · rw [List.take_of_length_le hil] at hA
           have hAQ : A = Q (t + 1) := by rw [hA, hQs t L htL, hlg]
           have hWt : W t + gS g (L.take i) = W (t + 1) := by rw [List.take_of_length_le hil, hWs t L htL]
           rw [hWt]
           subst hAQ
           repeat'
            conv => whnf
            first
             |refine zF ?_|refine zG ?_
             |(refine splD ?_ ?_ <;> intro hc <;> first|(exfalso; omega)|skip)
             |refine eL [.slice so L.length sc] ⟨⟨rfl, fun w' hw' => e1 w' hw'.2.now⟩, ?_⟩
           all_goals exact ⟨t + 1, by omega, by omega, Ent.ren (rho [(1, 4), (2, 5)]) rfl rfl ⟨rfl, rfl, rfl, rfl, by dsimp only [st9]; rw [hAl]; rfl, rfl, rfl, trivial⟩ ⟨rfl, by dsimp only [me9]; rw [hAl]; rfl, trivial⟩ fun _ h => h⟩
     · have hm8 : (t : Int).tmod 8 = ((t % 8 : Nat) : Int) := htm
       have ht0 : 1 ≤ t := by rcases Nat.eq_zero_or_pos t with e | e; exact absurd (by rw [e]) h8; exact e
       have hlg := lg0_n (A := Q t) h8
       rw [hlg] at hAb
       obtain ⟨m, hm⟩ : ∃ m, (Q t).length = m + 1 := ⟨(Q t).length - 1, by have := hlen t; omega⟩
       have hA0l := hm
       have hA0 : Q t ≠ [] := fun e => by rw [e] at hm; cases hm
       rw [st9_1 ht0, me9_1 ht0, hm]
       repeat'
        conv => whnf
        first
         |(refine splD ?_ ?_ <;> intro hc <;> first|(exfalso; omega)|skip)
         |refine Exists.intro (α := Int) ((t % 8 : Nat) : Int) ⟨⟨by omega, hm8⟩, ?_⟩
       conv => whnf
       refine loopN 3 (fun x : Nat × List Int => [(2, .ptr 0 0), (5, .v (.slice (some ad) R.length c)), (7, .v (iv k)), (8, .v (iv g)), (9, .os 1 2 (m + 1)), (10, .v (iv (W t + gS g (L.take x.1)))), (11, .v (iv t)), (12, .v (iv x.1))]) (fun x => [(0, .cells [.v (iv sl), .v (iv ro), .v (iv su), .v (.slice go G.length gc), .v (.slice to T.length tc)] 25), (1, .own 2 (m + 1) 1 (x.2.flatMap iF) 3)]) (fun x => x.1 ≤ L.length ∧ x.2 = addL (Q t) (k * gS g (L.take x.1))) (fun x => L.length - x.1) (0, Q t) ⟨Nat.zero_le _, by show Q t = addL (Q t) (k * 0); rw [Int.mul_zero, addL_zero hA0]⟩ ⟨rfl, rfl, rfl, rfl, rfl, by show lk _ 10 = some (SV.v (iv (W t + 0))); rw [Int.add_zero]; rfl, rfl, rfl, trivial⟩ ⟨rfl, rfl, trivial⟩ (fun _ _ => ⟨rfl, rfl⟩) ?_
       rintro ⟨i, A⟩ ⟨hi, hA⟩
       dsimp only at hi hA ⊢
       have hAl : A.length = m + 1 := by rw [hA, addL_len]; exact hA0l
       have hAn : A ≠ [] := fun e => by rw [e] at hAl; cases hAl
       have hgi := gS_take g L i
       have hgn := gS_nn g (L.take i)
       rcases Nat.lt_or_ge i L.length with hil | hil
       · obtain ⟨⟨x1, x2, x3⟩, hx⟩ : ∃ b, L[i]? = some b := ⟨_, List.getElem?_eq_getElem hil⟩
         obtain ⟨ad2, rfl⟩ := hp3 (fun e => by rw [e] at hil; cases hil)
         have hst := gS_step g hx
         have e2 := fun (w' : World) (h : TbL (some ad) c R w') => rd_fld (hr w' h) hx 0 _ rfl
         have hv0 : A[m]? = some (atI A (m)) := atI_get (by omega)
         have hbd := (hAb (k * gS g (L.take i)) (hk1 _ ⟨hgn, by omega⟩)).b (m)
         rw [← hA] at hbd
         have hadd : A.set (m) (atI A (m) + k) = addL A k := by unfold addL; rw [hAl, Nat.add_sub_cancel]
         generalize hvv : atI A (m) = vv at *
         generalize hQi : gS g (L.take i) = q at *
         by_cases hxg : x1 = (g : Int)
         · have hq1 : gS g (L.take (i + 1)) = q + 1 := by rw [hst, decide_eq_true hxg]; rfl
           repeat'
            conv => whnf
            first
             |refine zB ?_|refine zC ?_|refine zF ?_|refine zG ?_
             |(refine splD ?_ ?_ <;> intro hc <;> first|(exfalso; omega)|skip)
             |refine eL [.slice (some ad2) L.length sc] ⟨⟨rfl, fun w' hw' => e1 w' hw'.2.now⟩, ?_⟩
             |refine eL [iv x1] ⟨⟨rfl, fun w' hw' => e2 w' hw'.2.now⟩, ?_⟩
             |refine eL [iv vv] ⟨⟨rfl, yatZ (by omega) hv0⟩, ?_⟩
             |(refine And.intro (a := _ + _ ≤ List.length _) (ystZ (k := m) (L := A) (by omega) (by omega) _) ?_; rw [ystEZ (k := m) (L := A) (by omega) (by omega)])
           all_goals exact ⟨(i + 1, A.set (m) (vv + k)), ⟨by show i + 1 ≤ L.length; omega, by show A.set (m) (vv + k) = _; rw [hadd, hA, addL_add hA0, hq1, Int.mul_add, Int.mul_one]⟩, by show L.length - (i + 1) < L.length - i; omega, Ent.weak rfl ⟨rfl, rfl, rfl, rfl, rfl, by dsimp only; rw [hq1, ← Int.add_assoc]; rfl, rfl, rfl, trivial⟩ ⟨rfl, rfl, trivial⟩ fun _ h => h⟩
         · have hq1 : gS g (L.take (i + 1)) = q := by rw [hst, decide_eq_false hxg]; exact Int.add_zero q
           repeat'
            conv => whnf
            first
             |refine zB ?_|refine zF ?_|refine zG ?_
             |(refine splD ?_ ?_ <;> intro hc <;> first|(exfalso; omega)|skip)
             |refine eL [.slice (some ad2) L.length sc] ⟨⟨rfl, fun w' hw' => e1 w' hw'.2.now⟩, ?_⟩
             |refine eL [iv x1] ⟨⟨rfl, fun w' hw' => e2 w' hw'.2.now⟩, ?_⟩
           all_goals exact ⟨(i + 1, A), ⟨by show i + 1 ≤ L.length; omega, by show A = _; rw [hq1]; exact hA⟩, by show L.length - (i + 1) < L.length - i; omega, Ent.weak rfl ⟨rfl, rfl, rfl, rfl, rfl, by dsimp only; rw [hq1]; rfl, rfl, rfl, trivial⟩ ⟨rfl, rfl, trivial⟩ fun _ h => h⟩
       · rw [List.take_of_length_le hil] at hA
         have hAQ : A = Q (t + 1) := by rw [hA, hQs t L htL, hlg]
         have hWt : W t + gS g (L.take i) = W (t + 1) := by rw [List.take_of_length_le hil, hWs t L htL]
         rw [hWt]
         subst hAQ
         repeat'
          conv => whnf
          first
           |refine zF ?_|refine zG ?_
           |(refine splD ?_ ?_ <;> intro hc <;> first|(exfalso; omega)|skip)
           |refine eL [.slice so L.length sc] ⟨⟨rfl, fun w' hw' => e1 w' hw'.2.now⟩, ?_⟩
         all_goals exact ⟨t + 1, by omega, by omega, Ent.weak rfl ⟨rfl, rfl, rfl, rfl, by dsimp only [st9]; rw [hAl]; rfl, rfl, rfl, trivial⟩ ⟨rfl, by dsimp only [me9]; rw [hAl]; rfl, trivial⟩ fun _ h => h⟩
   · obtain rfl : t = R.length := by omega
     rw [st9_1 hl.1, me9_1 hl.1]
     have hb := (hQb R.length).b
     have hn := hlen R.length
     have hWn := hWb R.length
     clear hQb hlen hWb hQ0 hQs hWs
     generalize Q R.length = LL at *
     generalize W R.length = Wn at *
     have hn5 : LL.length ≤ 5 := by omega
     have hbs := sum_tkb hb LL.length
     rw [List.take_length] at hbs
     obtain ⟨_, gad, rfl, _⟩ := h.g.ptr (by show 0 < G.length; omega)
     have er := fun (w' : World) (hw' : Below w.heap.size w w') => rd_ati (h.below hw').g hrow
     have err := fun (w' : World) (hw' : Below w.heap.size w w') => (h.below hw').r _ (List.mem_of_getElem? hrow)
     have hrp : row.xs ≠ [] → ∃ a, row.o = some a := fun hne => by
      obtain ⟨_, a, h1, _⟩ := (h.r _ (List.mem_of_getElem? hrow)).ptr (List.length_pos_iff.2 hne)
      exact ⟨a, h1⟩
     obtain ⟨hr6, hrb⟩ : row.xs.length ≤ 6 ∧ ∀ x ∈ row.xs, 0 ≤ x ∧ x ≤ (20 : Nat) := by
      obtain ⟨-, -, hv3, -, -, hv6, -⟩ := scOk_iff.1 hv
      have h1 := List.all_eq_true.1 hv6 row.xs (List.mem_map_of_mem (List.mem_of_getElem? hrow))
      unfold grB at h1
      simp only [Bool.and_eq_true, decide_eq_true_eq] at h1
      exact ⟨by omega, fun x hx => by have := List.all_eq_true.1 h1.2 x hx; simp only [inB, Bool.and_eq_true, decide_eq_true_eq] at this; omega⟩
     have hrow' := hrow
     obtain ⟨ro2, rc2, xs⟩ := row
     dsimp only at er err hrp hr6 hrb hWl
     repeat'
      conv => whnf
      first
       |(refine splD ?_ ?_ <;> intro hc <;> first|(exfalso; omega)|skip)
     conv => whnf
     refine loopN 3 (fun x : Nat × Int × Nat => [(2, .ptr 0 0), (5, .v (.slice (some ad) R.length c)), (7, .v (iv k)), (8, .v (iv g)), (9, .os 1 2 LL.length), (10, .v (iv Wn)), (13, .v (iv ((LL.take x.1).map id).sum)), (14, .v (iv x.2.1)), (15, .v (iv x.2.2)), (16, .v (iv x.1))]) (fun _ => [(0, .cells [.v (iv sl), .v (iv ro), .v (iv su), .v (.slice (some gad) G.length gc), .v (.slice to T.length tc)] 25), (1, .own 2 LL.length 1 (LL.flatMap iF) 3)]) (fun x => x.1 ≤ LL.length ∧ MxI LL x.1 x.2.1 x.2.2) (fun x => LL.length - x.1) (0, 0, 0) ⟨Nat.zero_le _, MxI.nil LL⟩ ⟨rfl, rfl, rfl, rfl, rfl, rfl, rfl, rfl, rfl, rfl, trivial⟩ ⟨rfl, rfl, trivial⟩ (fun _ _ => ⟨rfl, rfl⟩) ?_
     rintro ⟨i, mx, f⟩ ⟨hi, hM⟩
     dsimp only at hi hM ⊢
     rcases Nat.lt_or_ge i LL.length with hil | hil
     · have hx : LL[i]? = some (atI LL i) := atI_get hil
       have hsb := sum_tkb hb i
       have hst := sum_tk (f := id) hx
       have hxb := hb i
       have hy := hM.yes
       have hz := hM.no
       rw [← List.map_id (LL.take i)] at hsb
       simp only [id] at hst
       generalize hvv : atI LL i = vv at *
       generalize ((LL.take i).map id).sum = SS at *
       by_cases hgt : mx < vv
       · skip
         repeat'
          conv => whnf
          first
           |refine zF ?_|refine zG ?_
           |(refine splD ?_ ?_ <;> intro hc <;> first|(exfalso; omega)|skip)
           |refine eL [iv vv] ⟨⟨rfl, yatS hx⟩, ?_⟩
         all_goals exact ⟨(i + 1, vv, i), ⟨by show i + 1 ≤ LL.length; omega, hy hgt⟩, by show LL.length - (i + 1) < LL.length - i; omega, Ent.weak rfl ⟨rfl, rfl, rfl, rfl, rfl, rfl, by dsimp only; rw [hst]; rfl, rfl, rfl, rfl, trivial⟩ ⟨rfl, rfl, trivial⟩ fun _ h => h⟩
       · skip
         repeat'
          conv => whnf
          first
           |refine zF ?_|refine zG ?_
           |(refine splD ?_ ?_ <;> intro hc <;> first|(exfalso; omega)|skip)
           |refine eL [iv vv] ⟨⟨rfl, yatS hx⟩, ?_⟩
         all_goals exact ⟨(i + 1, mx, f), ⟨by show i + 1 ≤ LL.length; omega, hz hgt⟩, by show LL.length - (i + 1) < LL.length - i; omega, Ent.weak rfl ⟨rfl, rfl, rfl, rfl, rfl, rfl, by dsimp only; rw [hst]; rfl, rfl, rfl, rfl, trivial⟩ ⟨rfl, rfl, trivial⟩ fun _ h => h⟩
     · obtain rfl : i = LL.length := by omega
       rw [List.take_length, List.map_id]
       repeat'
        conv => whnf
        first
         |(refine splD ?_ ?_ <;> intro hc <;> first|(exfalso; omega)|skip)
       conv => whnf
       refine loopN 3 (fun j : Nat => [(2, .ptr 0 0), (5, .v (.slice (some ad) R.length c)), (7, .v (iv k)), (8, .v (iv g)), (9, .os 1 2 LL.length), (10, .v (iv Wn)), (13, .v (iv LL.sum)), (14, .v (iv mx)), (15, .v (iv f)), (17, .v (iv ((xs.take j).map id).sum)), (18, .v (iv j))]) (fun _ => [(0, .cells [.v (iv sl), .v (iv ro), .v (iv su), .v (.slice (some gad) G.length gc), .v (.slice to T.length tc)] 25), (1, .own 2 LL.length 1 (LL.flatMap iF) 3)]) (fun j => j ≤ xs.length) (fun j => xs.length - j) 0 (Nat.zero_le _) ⟨rfl, rfl, rfl, rfl, rfl, rfl, rfl, rfl, rfl, rfl, rfl, trivial⟩ ⟨rfl, rfl, trivial⟩ (fun _ _ => ⟨rfl, rfl⟩) ?_
       intro j hj
       rcases Nat.lt_or_ge j xs.length with hjl | hjl
       · obtain ⟨y, hy⟩ : ∃ b, xs[j]? = some b := ⟨_, List.getElem?_eq_getElem hjl⟩
         obtain ⟨rad, rfl⟩ := hrp (fun e => by rw [e] at hjl; cases hjl)
         have e2 := fun (w' : World) (hw' : Below w.heap.size w w') => rd_ati (err w' hw') hy
         have h1 := sum_bt (f := id) hrb j
         have h2 := hrb y (List.mem_of_getElem? hy)
         have h3 := sum_tk (f := id) hy
         simp only [id] at h3
         generalize ((xs.take j).map id).sum = S at *
         repeat'
          conv => whnf
          first
           |refine zB ?_|refine zF ?_|refine zG ?_
           |(refine splD ?_ ?_ <;> intro hc <;> first|(exfalso; omega)|skip)
           |refine eL [.slice (some rad) xs.length rc2] ⟨⟨rfl, fun w' hw' => er w' hw'.1⟩, ?_⟩
           |refine eL [iv y] ⟨⟨rfl, fun w' hw' => e2 w' hw'.1⟩, ?_⟩
         all_goals exact ⟨j + 1, by omega, by omega, Ent.weak rfl ⟨rfl, rfl, rfl, rfl, rfl, rfl, rfl, rfl, rfl, by rw [h3]; rfl, rfl, trivial⟩ ⟨rfl, rfl, trivial⟩ fun _ h => h⟩
       · obtain rfl : j = xs.length := by omega
         rw [List.take_length, List.map_id, ← hWl]
         have c1 := fun (b cb : Nat) (w' : World) (hbw : Below w.heap.size w w') (ho : w'.ownsRow 0 3 1 (.slice (some ⟨b, 0, none⟩) (0 + LL.length) cb) (0 + LL.length) ([] ++ LL.flatMap iF)) => own_weary (hM.w1 hb hn5 (own_cap0 ho)) ho
         rw [wyV, if_neg (Nat.lt_irrefl _)] at c1
         by_cases hm0 : mx = 0
         · clear hb hM
           repeat'
            conv => whnf
            first
             |refine zB ?_|refine zD ?_|refine zF ?_|refine zG ?_|refine zI ?_|refine splF ?_|refine splNot ?_
             |(refine splD ?_ ?_ <;> intro hc <;> first|(exfalso; omega)|skip)
             |refine eL [.slice ro2 xs.length rc2] ⟨⟨rfl, fun w' hw' => er w' hw'.1⟩, ?_⟩
             |refine And.intro (a := (_ : Bool) = true ∧ List.length _ = _ ∧ ∀ v ∈ _, Value.oneCell' v = true) ⟨Nat.beq_refl _, lenI LL, oneI LL⟩ ?_
             |((with_reducible show CallEv _ _ 31 [SV.agg (SV.v (iv mx) :: _), _] _ _ _ _); refine callM (k := 31) [4] (fun β w' hbk hbw => c1 (β 4) (β 5) w' hbw.1 (hbk 4 (by simp) _ rfl)) ?_)
           all_goals exact ⟨g + 1, by omega, by omega, Ent.weak rfl ⟨rfl, rfl, rfl, rfl, trivial⟩ ⟨rfl, trivial⟩ fun _ h => h⟩
         · have hfl := (hM.w2 hm0 hb hn5 (Nat.le_refl _)).1
           have c2 := fun (b cb : Nat) (w' : World) (hbw : Below w.heap.size w w') (ho : w'.ownsRow 0 3 1 (.slice (some ⟨b, 0, none⟩) (0 + LL.length) cb) (0 + LL.length) ([] ++ LL.flatMap iF)) => own_weary (hM.w2 hm0 hb hn5 (own_cap0 ho)).2 ho
           rw [wyV, if_pos hfl] at c2
           have hmb := (hM.w1 hb hn5 (Nat.le_refl _)).hd
           have hmn := hM.nn
           clear hb hM
           repeat'
            conv => whnf
            first
             |refine zB ?_|refine zD ?_|refine zF ?_|refine zG ?_|refine zI ?_|refine splF ?_|refine splNot ?_
             |(refine splD ?_ ?_ <;> intro hc <;> first|(exfalso; omega)|skip)
             |refine eL [.slice ro2 xs.length rc2] ⟨⟨rfl, fun w' hw' => er w' hw'.1⟩, ?_⟩
             |refine And.intro (a := (_ : Bool) = true ∧ List.length _ = _ ∧ ∀ v ∈ _, Value.oneCell' v = true) ⟨Nat.beq_refl _, lenI LL, oneI LL⟩ ?_
             |((with_reducible show CallEv _ _ 31 [SV.agg (SV.v (iv mx) :: _), _] _ _ _ _); refine callM (k := 31) [4] (fun β w' hbk hbw => c1 (β 4) (β 5) w' hbw.1 (hbk 4 (by simp) _ rfl)) ?_)
             |((with_reducible show CallEv _ _ 31 [SV.agg (SV.v (.int .i64 (mx - 1)) :: _), _] _ _ _ _); refine callM (k := 31) [7] (fun β w' hbk hbw => c2 (β 7) (β 8) w' hbw.1 (hbk 7 (by simp) _ rfl)) ?_)
           all_goals exact ⟨g + 1, by omega, by omega, Ent.weak rfl ⟨rfl, rfl, rfl, rfl, trivial⟩ ⟨rfl, trivial⟩ fun _ h => h⟩
 · obtain rfl : g = G.length := by omega
   repeat'
    conv => whnf
    first
     |refine zB ?_|refine zD ?_
     |(refine splD ?_ ?_ <;> intro hc <;> first|(exfalso; omega)|skip)
     |((with_reducible show CallEv _ _ 30 ..); refine callE (fun β w' hbw => h30 w') ?_)
   all_goals exact ⟨fun β => rfl, fun w' h => h.1⟩
theorem everyRX_ok (L : List Int) (o : Option Addr) (c : Nat) (lo hi : Int) (w : World) (hrd : Rd 1 iF (.slice o L.length c) L w) (hl : L.length ≤ 9223372036854775807) :
 Calls Tryz.prog 51 #[.slice o L.length c, iv lo, iv hi] w fun e w' => e = .returned (.bool (evB L lo hi)) ∧ Below w.heap.size w w' := by
 refine calls_val env mixed Tryz.func51 has51 Tryz.ntmps51 [.slice o L.length c, iv lo, iv hi] (by simp) ?_
 skip
 refine loopE (fun k : Nat => [(0, .v (.slice o L.length c)), (1, .v (iv lo)), (2, .v (iv hi)), (7, .v (iv k))]) (fun _ => []) (fun k => k ≤ L.length ∧ evB (L.take k) lo hi = true) (fun k => L.length - k) 0 ⟨Nat.zero_le _, rfl⟩ ⟨rfl, rfl, rfl, rfl, trivial⟩ trivial (fun _ => ⟨rfl, rfl⟩) ?_
 intro k ⟨hk, hall⟩
 rcases Nat.lt_or_ge k L.length with hkl | hkl
 · obtain ⟨x, hx⟩ : ∃ b, L[k]? = some b := ⟨_, List.getElem?_eq_getElem hkl⟩
   obtain ⟨_, ad, rfl, _⟩ := hrd.ptr (by omega)
   have e0 := fun (w' : World) hw' => rd_ati (hrd.below (w' := w') hw') hx
   have ht := evB_take (lo := lo) (hi := hi) hx
   rw [hall, Bool.true_and] at ht
   have hv := fun w' => In_ok x lo hi w'
   cases hg : inB x lo hi with
   | true =>
    rw [hg] at hv ht
    repeat'
     conv => whnf
     first
      |refine zD ?_|refine zF ?_|refine zG ?_|refine splF ?_
      |(refine splD ?_ ?_ <;> intro hc <;> first|(exfalso; omega)|skip)
      |refine eL [iv x] ⟨⟨rfl, fun w' hw' => e0 w' hw'⟩, ?_⟩
      |((with_reducible show CallEv _ _ 50 ..); refine callE (fun β w' hbw => hv _) ?_)
    exact ⟨k + 1, ⟨by omega, ht⟩, by omega, Ent.weak rfl ⟨rfl, rfl, rfl, rfl, trivial⟩ trivial fun _ h => h⟩
   | false =>
    rw [hg] at hv ht
    rw [evB_no hx hg]
    repeat'
     conv => whnf
     first
      |refine zD ?_|refine zG ?_|refine splT ?_
      |(refine splD ?_ ?_ <;> intro hc <;> first|(exfalso; omega)|skip)
      |refine eL [iv x] ⟨⟨rfl, fun w' hw' => e0 w' hw'⟩, ?_⟩
      |((with_reducible show CallEv _ _ 50 ..); refine callE (fun β w' hbw => hv _) ?_)
    all_goals exact ⟨fun β => rfl, fun w' h => h⟩
 · rw [List.take_of_length_le hkl] at hall
   rw [hall]
   repeat'
    conv => whnf
    first
     |(refine splD ?_ ?_ <;> intro hc <;> first|(exfalso; omega)|skip)
   all_goals exact ⟨fun β => rfl, fun w' h => h⟩
theorem risingX_ok (su : Int) (l : List Int) (o : Option Addr) (c : Nat) (w : World) (hrd : Rd 1 iF (.slice o l.length c) l w) (hl : l.length ≤ 9223372036854775807) (hs : -1000000 ≤ su ∧ su ≤ 1000000) :
 Calls Tryz.prog 52 #[.slice o l.length c, iv su] w fun e w' => e = .returned (.bool (subB su l)) ∧ Below w.heap.size w w' := by
 have c51 := fun (w' : World) (hb : Below w.heap.size w w') => everyRX_ok l o c 0 (su - 1) w' (hrd.below hb) hl
 refine calls_val env mixed Tryz.func52 has52 Tryz.ntmps52 [.slice o l.length c, iv su] (by simp) ?_
 by_cases hl0 : l.length = 0
 · have : subB su l = false := by unfold subB; rw [decide_eq_false (by omega), Bool.false_and]
   rw [this]
   skip
   refine loopE (fun k : Nat => [(0, .v (.slice o l.length c)), (1, .v (iv su)), (5, .v (iv (1 + k)))]) (fun _ => []) (fun k => k ≤ 0) (fun k => l.length - k) 0 (Nat.le_refl _) ⟨rfl, rfl, rfl, trivial⟩ trivial (fun _ => ⟨rfl, rfl⟩) ?_
   intro k hk
   repeat'
    conv => whnf
    first
     |(refine splD ?_ ?_ <;> intro hc <;> first|(exfalso; omega)|skip)
   all_goals exact ⟨fun β => rfl, fun w' h => h⟩
 have hsp : subB su l = (evB l 0 (su - 1) && alN (riA l) l.length) := by unfold subB; rw [decide_eq_true (by omega), Bool.true_and]
 rw [hsp]
 skip
 refine loopE (fun k : Nat => [(0, .v (.slice o l.length c)), (1, .v (iv su)), (5, .v (iv (1 + k)))]) (fun _ => []) (fun k => 1 + k ≤ l.length ∧ alN (riA l) (1 + k) = true) (fun k => l.length - k) 0 ⟨by omega, rfl⟩ ⟨rfl, rfl, rfl, trivial⟩ trivial (fun _ => ⟨rfl, rfl⟩) ?_
 intro k ⟨hk, hall⟩
 rcases Nat.lt_or_ge (1 + k) l.length with hkl | hkl
 · obtain ⟨x, hx⟩ : ∃ b, l[1 + k]? = some b := ⟨_, List.getElem?_eq_getElem hkl⟩
   obtain ⟨y, hy⟩ : ∃ b, l[k]? = some b := ⟨_, List.getElem?_eq_getElem (by omega)⟩
   obtain ⟨_, ad, rfl, _⟩ := hrd.ptr (by omega)
   have e0 := fun (w' : World) hw' => rd_atz (hrd.below (w' := w') hw') hx (1 + (k : Int)) (by omega)
   have e1 := fun (w' : World) hw' => rd_atz (hrd.below (w' := w') hw') hy (1 + (k : Int) - 1) (by omega)
   have hri : riA l (1 + k) = decide (y < x) := by unfold riA; rw [decide_eq_false (by omega), Bool.false_or, Nat.add_sub_cancel_left, getD_at hx, getD_at hy]
   by_cases hlt : y < x
   · rw [decide_eq_true hlt] at hri
     have hnx : alN (riA l) (1 + (k + 1)) = true := by rw [show 1 + (k + 1) = (1 + k) + 1 from by omega, alN, hall, hri]; rfl
     repeat'
      conv => whnf
      first
       |refine zA ?_|refine zF ?_|refine zG ?_
       |(refine splD ?_ ?_ <;> intro hc <;> first|(exfalso; omega)|skip)
       |refine eL [iv x] ⟨⟨rfl, fun w' hw' => e0 w' hw'⟩, ?_⟩
       |refine eL [iv y] ⟨⟨rfl, fun w' hw' => e1 w' hw'⟩, ?_⟩
     all_goals exact ⟨k + 1, ⟨by omega, hnx⟩, by omega, Ent.weak rfl ⟨rfl, rfl, by rw [show (1 : Int) + ((k + 1 : Nat) : Int) = 1 + (k : Int) + 1 from by omega]; rfl, trivial⟩ trivial fun _ h => h⟩
   · rw [decide_eq_false hlt] at hri
     rw [alN_no hkl hri, Bool.and_false]
     repeat'
      conv => whnf
      first
       |refine zA ?_|refine zF ?_|refine zG ?_
       |(refine splD ?_ ?_ <;> intro hc <;> first|(exfalso; omega)|skip)
       |refine eL [iv x] ⟨⟨rfl, fun w' hw' => e0 w' hw'⟩, ?_⟩
       |refine eL [iv y] ⟨⟨rfl, fun w' hw' => e1 w' hw'⟩, ?_⟩
     all_goals exact ⟨fun β => rfl, fun w' h => h⟩
 · have hall' : alN (riA l) l.length = true := by rw [show l.length = 1 + k from by omega]; exact hall
   rw [hall', Bool.and_true]
   cases hw : evB l 0 (su - 1)
   all_goals rw [hw] at c51
   all_goals skip
   repeat'
    conv => whnf
    first
     |refine zD ?_|refine zF ?_
     |(refine splD ?_ ?_ <;> intro hc <;> first|(exfalso; omega)|skip)
     |((with_reducible show CallEv _ _ 51 ..); refine callE (fun β w' hbw => c51 _ hbw) ?_)
   all_goals exact ⟨fun β => rfl, fun w' h => h⟩
theorem RightX_ok (s : Sc) (w : World) (h : ScIn s w) (hB : ScX s) : Calls Tryz.prog 15 #[s.v] w fun e w' => e = .returned (.bool (scOk s.d)) ∧ Below w.heap.size w w' := by
 obtain ⟨sl, ro, su, go, gc, G, to, tc, T⟩ := s
 obtain ⟨hg, hr, ht, hh⟩ := h
 obtain ⟨b1, b2, b3, b4⟩ := hB
 unfold scOk Sc.d
 dsimp only at hg hr ht hh b1 b2 b3 b4 ⊢
 rw [List.length_map, List.length_map]
 refine calls_val env mixed Tryz.func15 has15 Tryz.ntmps15 [.agg #[iv sl, iv ro, iv su, .slice go G.length gc, .slice to T.length tc]] (by simp) ?_
 by_cases hp : (1 ≤ sl ∧ sl ≤ 40) ∧ (1 ≤ ro ∧ ro ≤ 6) ∧ (1 ≤ su ∧ su ≤ 6) ∧ G.length ≤ 8 ∧ T.length ≤ 8
 case neg =>
  have : (inB sl 1 40 && (inB ro 1 6 && (inB su 1 6 && (decide (G.length ≤ 8) && (decide (T.length ≤ 8) && ((G.map Rw.xs).all (grB su) && (T.map Tc.d).all (teB su))))))) = false := by
   rw [Bool.eq_false_iff]
   intro hc
   simp only [Bool.and_eq_true, inB_iff, decide_eq_true_eq] at hc
   exact hp ⟨hc.1, hc.2.1, hc.2.2.1, hc.2.2.2.1, hc.2.2.2.2.1⟩
  rw [this]
  repeat'
   conv => whnf
   first
    |refine zB ?_|refine zD ?_|refine splT ?_|refine splNot ?_
    |((first|refine splIn ?_ ?_|refine splD ?_ ?_) <;> intro hc <;> first|(exfalso; omega)|skip)
    |((with_reducible show CallEv _ _ 50 ..); refine callE (fun β w' hbw => In_ok _ _ _ _) ?_)
  all_goals exact ⟨fun β => rfl, fun w' h => h⟩
 obtain ⟨p1, p2, p3, p4, p5⟩ := hp
 rw [inB_iff.2 p1, inB_iff.2 p2, inB_iff.2 p3, decide_eq_true p4, decide_eq_true p5]
 simp only [Bool.true_and]
 repeat'
  conv => whnf
  first
   |refine zB ?_|refine zD ?_|refine splNot ?_
   |((first|refine splIn ?_ ?_|refine splD ?_ ?_) <;> intro hc <;> first|(exfalso; omega)|skip)
   |((with_reducible show CallEv _ _ 50 ..); refine callE (fun β w' hbw => In_ok _ _ _ _) ?_)
 refine loopE (fun k : Nat => [(1, .ptr 0 0), (3, .v (iv k))]) (fun _ => [(0, .cells [.v (iv sl), .v (iv ro), .v (iv su), .v (.slice go G.length gc), .v (.slice to T.length tc)] 25)]) (fun k => k ≤ G.length ∧ ((G.take k).map Rw.xs).all (grB su) = true) (fun k => G.length - k) 0 ⟨Nat.zero_le _, rfl⟩ ⟨rfl, rfl, trivial⟩ ⟨rfl, trivial⟩ (fun _ => ⟨rfl, rfl⟩) ?_
 intro k ⟨hk, hall⟩
 rcases Nat.lt_or_ge k G.length with hkl | hkl
 · obtain ⟨⟨ro', rc, xs⟩, hx⟩ : ∃ b, G[k]? = some b := ⟨_, List.getElem?_eq_getElem hkl⟩
   obtain ⟨_, ad, rfl, _⟩ := hg.ptr (by omega)
   have hrr := hr _ (List.mem_of_getElem? hx)
   have hrb := b2 _ (List.mem_of_getElem? hx)
   change Rd 1 iF (.slice ro' xs.length rc) xs w at hrr
   dsimp only at hrb
   have hat := all_mapT (f := Rw.xs) (p := grB su) hx
   rw [hall, Bool.true_and] at hat
   have hno := all_mapN (f := Rw.xs) (p := grB su) hx
   dsimp only at hat hno
   have e0 := fun (w' : World) hw' => rd_ati (hg.below (w' := w') hw') hx
   have c51 := fun (w' : World) (hw : Below w.heap.size w w') => everyRX_ok xs ro' rc 0 20 w' (hrr.below hw) hrb
   by_cases hok : (xs.length : Int) = su ∧ evB xs 0 20 = true
   · have hgr : grB su xs = true := by unfold grB; rw [decide_eq_true hok.1, hok.2]; rfl
     rw [hgr] at hat
     rw [hok.2] at c51
     have hok1 := hok.1
     repeat'
      conv => whnf
      first
       |refine zA ?_|refine zB ?_|refine zD ?_|refine zF ?_|refine zG ?_|refine splF ?_|refine splNot ?_
       |(refine splD ?_ ?_ <;> intro hc <;> first|(exfalso; omega)|skip)
       |refine eL [.slice ro' xs.length rc] ⟨⟨rfl, fun w' hw' => e0 w' hw'⟩, ?_⟩
       |((with_reducible show CallEv _ _ 51 ..); refine callE (fun β w' hbw => c51 _ hbw) ?_)
     all_goals exact ⟨k + 1, ⟨by omega, hat⟩, by omega, Ent.weak rfl ⟨rfl, rfl, trivial⟩ ⟨rfl, trivial⟩ fun _ h => h⟩
   · have hgr : grB su xs = false := by
      rw [Bool.eq_false_iff]; intro hc; unfold grB at hc; rw [Bool.and_eq_true, decide_eq_true_eq] at hc; exact hok hc
     rw [hno hgr, Bool.false_and]
     have hok' : evB xs 0 20 = true → (xs.length : Int) ≠ su := fun h1 h2 => hok ⟨h2, h1⟩
     clear hok
     cases hev : evB xs 0 20
     all_goals rw [hev] at c51 hok'
     all_goals first|(have hok' := hok' rfl)|skip
     all_goals skip
     repeat'
      conv => whnf
      first
       |refine zA ?_|refine zB ?_|refine zD ?_|refine zG ?_|refine splT ?_|refine splNot ?_
       |(refine splD ?_ ?_ <;> intro hc <;> first|(exfalso; omega)|skip)
       |refine eL [.slice ro' xs.length rc] ⟨⟨rfl, fun w' hw' => e0 w' hw'⟩, ?_⟩
       |((with_reducible show CallEv _ _ 51 ..); refine callE (fun β w' hbw => c51 _ hbw) ?_)
     all_goals exact ⟨fun β => rfl, fun w' h => h⟩
 rw [List.take_of_length_le hkl] at hall
 rw [hall, Bool.true_and]
 clear hall
 repeat'
  conv => whnf
  first
   |refine zB ?_
   |(refine splD ?_ ?_ <;> intro hc <;> first|(exfalso; omega)|skip)
 refine loopE (fun k : Nat => [(1, .ptr 0 0), (4, .v (iv k))]) (fun _ => [(0, .cells [.v (iv sl), .v (iv ro), .v (iv su), .v (.slice go G.length gc), .v (.slice to T.length tc)] 25)]) (fun k => k ≤ T.length ∧ ((T.take k).map Tc.d).all (teB su) = true) (fun k => T.length - k) 0 ⟨Nat.zero_le _, rfl⟩ ⟨rfl, rfl, trivial⟩ ⟨rfl, trivial⟩ (fun _ => ⟨rfl, rfl⟩) ?_
 clear hk hkl
 intro k ⟨hk, hall⟩
 rcases Nat.lt_or_ge k T.length with hkl | hkl
 · obtain ⟨⟨ro', rc, xs, hh'⟩, hx⟩ : ∃ b, T[k]? = some b := ⟨_, List.getElem?_eq_getElem hkl⟩
   obtain ⟨_, ad, rfl, _⟩ := ht.ptr (by omega)
   have hrr := hh _ (List.mem_of_getElem? hx)
   have hrb := b4 _ (List.mem_of_getElem? hx)
   dsimp only at hrr hrb
   have hat := all_mapT (f := Tc.d) (p := teB su) hx
   rw [hall, Bool.true_and] at hat
   have hno := all_mapN (f := Tc.d) (p := teB su) hx
   have e0 := fun (w' : World) hw' => rd_fld (ht.below (w' := w') hw') hx
   have c52 := fun (w' : World) (hw : Below w.heap.size w w') => risingX_ok su xs ro' rc w' (hrr.below hw) hrb (by omega)
   have c50 := fun (w' : World) => In_ok hh' 0 40 w'
   have hte : teB su (Tc.d ⟨ro', rc, xs, hh'⟩) = (subB su xs && inB hh' 0 40) := rfl
   rw [hte] at hat hno
   cases q1 : subB su xs <;> cases q2 : inB hh' 0 40
   all_goals rw [q1] at c52
   all_goals rw [q2] at c50
   all_goals first|rw [hno (by rw [q1, q2]; rfl)]|rw [q1, q2] at hat
   all_goals skip
   repeat'
    conv => whnf
    first
     |refine zA ?_|refine zB ?_|refine zD ?_|refine zF ?_|refine zG ?_|refine splT ?_|refine splF ?_
     |(refine splD ?_ ?_ <;> intro hc <;> first|(exfalso; omega)|skip)
     |refine eL [.slice ro' xs.length rc] ⟨⟨rfl, fun w' hw' => e0 w' hw' 0 _ rfl⟩, ?_⟩
     |refine eL [iv hh'] ⟨⟨rfl, fun w' hw' => e0 w' hw' 1 _ rfl⟩, ?_⟩
     |((with_reducible show CallEv _ _ 52 ..); refine callE (fun β w' hbw => c52 _ hbw) ?_)
     |((with_reducible show CallEv _ _ 50 ..); refine callE (fun β w' hbw => c50 _) ?_)
   all_goals first|exact ⟨fun β => rfl, fun w' h => h⟩|exact ⟨k + 1, ⟨by omega, hat⟩, by omega, Ent.weak rfl ⟨rfl, rfl, trivial⟩ ⟨rfl, trivial⟩ fun _ h => h⟩
 rw [List.take_of_length_le hkl] at hall
 rw [hall]
 repeat'
  conv => whnf
  first
   |refine zB ?_
   |(refine splD ?_ ?_ <;> intro hc <;> first|(exfalso; omega)|skip)
 all_goals exact ⟨fun β => rfl, fun w' h => h⟩
theorem longE (n : Nat) : (1 : Int) + ((n % 60 : Nat) : Int) = ((1 + n % 60 : Nat) : Int) := by omega
theorem tmod60 (t : Nat) : (t : Int).tmod 60 = ((t % 60 : Nat) : Int) := by
 rw [show (60 : Int) = ((60 : Nat) : Int) from rfl, Int.ofNat_tmod]
theorem TopLessons_ok (s : Sc) (mn : Nat) (w : World) (h : ScIn s w) (hX : ScX s) (hmn : mn < 256) :
 Calls Tryz.prog 10 #[s.v, .int .u8 mn] w fun e w' => e = .returned (.bool true) ∧ Below w.heap.size w w' := by
 have h30 := fun w' => eats_ok w'
 have h11 := fun (w' : World) (hw : Below w.heap.size w w') => Thin_ok s w' (h.below hw) hX
 have h15 := fun (w' : World) (hw : Below w.heap.size w w') => RightX_ok s w' (h.below hw) hX
 have hm60 := tmod60 mn
 cases hth : thS s.d with
 | false =>
  rw [hth] at h11
  obtain ⟨sl, ro, su, go, gc, G, to, tc, T⟩ := s
  refine calls_val env mixed Tryz.func10 has10 Tryz.ntmps10 [.agg #[iv sl, iv ro, iv su, .slice go G.length gc, .slice to T.length tc], .int .u8 mn] (by simp) ?_
  repeat'
   conv => whnf
   first
    |refine zD ?_|refine splT ?_
    |((with_reducible show CallEv _ _ 11 ..); refine callE (fun β w' hbw => h11 _ hbw) ?_)
    |((with_reducible show CallEv _ _ 30 ..); refine callE (fun β w' hbw => h30 w') ?_)
  all_goals exact ⟨fun β => rfl, fun w' h => h⟩
 | true =>
  rw [hth] at h11
  have hB := ScX.b hth
  have h14 := fun (w' : World) (hw : Below w.heap.size w w') => famS hw (School_ok s w' (h.below hw) hB)
  have h13 : ∀ (y : { y : Sc // y.d = s.d }) (w' : World), Below w.heap.size w w' → ScIn y.1 w' → Calls Tryz.prog 13 #[y.1.v] w' fun e w2 => ∃ x : TabF s.d, e = .returned x.v ∧ Below w'.heap.size w' w2 ∧ St w'.heap.size (St w.heap.size (TbL x.o x.c x.R)) w2 := fun y w' hw h1 => by
   have h2 := famS hw (Table_ok y.1 w' h1 (hB.d y.2))
   rw [y.2] at h2
   exact h2
  generalize hD : s.d = D at *
  obtain ⟨sl, ro, su, go, gc, G, to, tc, T⟩ := s
  cases hv : scOk D with
  | false =>
   rw [hv] at h15
   refine calls_val env mixed Tryz.func10 has10 Tryz.ntmps10 [.agg #[iv sl, iv ro, iv su, .slice go G.length gc, .slice to T.length tc], .int .u8 mn] (by simp) ?_
   repeat'
    conv => whnf
    first
     |refine zD ?_|refine splT ?_|refine splF ?_
     |((with_reducible show CallEv _ _ 11 ..); refine callE (fun β w' hbw => h11 _ hbw) ?_)
     |((with_reducible show CallEv _ _ 15 ..); refine callE (fun β w' hbw => h15 w' (by repeat (first | exact hbw | replace hbw := hbw.1))) ?_)
     |((with_reducible show CallEv _ _ 30 ..); refine callE (fun β w' hbw => h30 w') ?_)
   all_goals exact ⟨fun β => rfl, fun w' h => h⟩
  | true =>
   rw [hv] at h15
   have hsl := (scOk_iff.1 hv).1
   have hDl : D.sl = sl := by rw [← hD]; rfl
   cases hr : rWhy D with
   | some r =>
    have e1 : errT D = 9 := by unfold errT; rw [hv, hr]; rfl
    have h13 := fun y w' hw h1 => (h13 y w' hw h1).mono fun e w2 ⟨x, h1, h2, h3⟩ => (⟨(x.o, x.c), by rw [h1]; have := x.e (by rw [e1]; decide); show Ending.returned (Value.tuple #[.slice x.o x.R.length x.c, iv (errT D)]) = _; rw [this, e1]; rfl, h2, fun _ _ => trivial⟩ : ∃ p : Option Addr × Nat, e = Ending.returned (.tuple #[.slice p.1 0 p.2, iv 9]) ∧ Below w'.heap.size w' w2 ∧ St w'.heap.size (fun _ => True) w2)
    refine calls_val env mixed Tryz.func10 has10 Tryz.ntmps10 [.agg #[iv sl, iv ro, iv su, .slice go G.length gc, .slice to T.length tc], .int .u8 mn] (by simp) ?_
    repeat'
     conv => whnf
     first
      |refine zD ?_|refine splT ?_|refine splF ?_
      |((with_reducible show CallEv _ _ 11 ..); refine callE (fun β w' hbw => h11 _ hbw) ?_)
      |((with_reducible show CallEv _ _ 14 ..); refine callF [] (fun y : { y : Sc // y.d = D } => y.1.v) (fun y => St w.heap.size (ScIn y.1)) (fun β w' _ hbw => h14 w' (by repeat (first | exact hbw | replace hbw := hbw.1))) ?_; intro y)
      |((with_reducible show CallEv _ _ 13 ..); refine callF [] (fun p : Option Addr × Nat => .tuple #[.slice p.1 0 p.2, iv 9]) (fun _ _ => True) (fun β w' _ hbw => h13 y w' (by repeat (first | exact hbw | replace hbw := hbw.1)) (St.now hbw.2)) ?_; intro p)
      |((with_reducible show CallEv _ _ 15 ..); refine callE (fun β w' hbw => h15 w' (by repeat (first | exact hbw | replace hbw := hbw.1))) ?_)
      |((with_reducible show CallEv _ _ 30 ..); refine callE (fun β w' hbw => h30 w') ?_)
    all_goals exact ⟨fun β => rfl, fun w' h => h.1.1⟩
   | none =>
    have e1 : errT D = 0 := errT0 hv hr
    have h13 := fun y w' hw h1 => (h13 y w' hw h1).mono fun e w2 ⟨x, h1, h2, h3⟩ => (⟨⟨⟨x.o, x.c, x.R⟩, x.h e1⟩, by rw [h1]; show Ending.returned (Value.tuple #[.slice x.o x.R.length x.c, iv (errT D)]) = _; rw [e1], h2, h3⟩ : ∃ p : { p : TbR // rfitB D (p.R.map Lr.L) = true ∧ risB (p.R.map Lr.L) }, e = Ending.returned (.tuple #[.slice p.1.o p.1.R.length p.1.c, iv 0]) ∧ Below w'.heap.size w' w2 ∧ St w'.heap.size (St w.heap.size (TbL p.1.o p.1.c p.1.R)) w2)
    have hRl : ∀ p : { p : TbR // rfitB D (p.R.map Lr.L) = true ∧ risB (p.R.map Lr.L) }, (p.1.R.length : Int) = sl := fun p => by
     have := (Fit.of hv p.2.1).len
     rw [List.length_map] at this
     omega
    refine calls_valV env mixed Tryz.func10 has10 Tryz.ntmps10 [.agg #[iv sl, iv ro, iv su, .slice go G.length gc, .slice to T.length tc], .int .u8 mn] (by simp) ?_
    refine VC.cutH env mixed 6 1 (fun p : { p : TbR // rfitB D (p.R.map Lr.L) = true ∧ risB (p.R.map Lr.L) } => [(2, .ptr 0 0), (5, .v (.slice p.1.o p.1.R.length p.1.c)), (7, .v (iv ((1 + mn % 60 : Nat) : Int)))]) (fun _ => [(0, .cells [.v (iv sl), .v (iv ro), .v (iv su), .v (.slice go G.length gc), .v (.slice to T.length tc)] 25)]) (fun p w' => Below w.heap.size w w' ∧ St w.heap.size (TbL p.1.o p.1.c p.1.R) w') (fun _ => True) (fun _ _ => ⟨rfl, rfl⟩) ?_ (fun p _ => ?_)
    · skip
      repeat'
       conv => whnf
       first
        |refine zB ?_|refine zD ?_|refine zF ?_|refine splF ?_|refine splNot ?_
        |(refine splD ?_ ?_ <;> intro hc <;> first|(exfalso; omega)|skip)
        |((with_reducible show CallEv _ _ 11 ..); refine callE (fun β w' hbw => h11 _ hbw) ?_)
        |((with_reducible show CallEv _ _ 14 ..); refine callF [] (fun y : { y : Sc // y.d = D } => y.1.v) (fun y => St w.heap.size (ScIn y.1)) (fun β w' _ hbw => h14 w' (by repeat (first | exact hbw | replace hbw := hbw.1))) ?_; intro y)
        |((with_reducible show CallEv _ _ 13 ..); (refine callF [] (fun p : { p : TbR // rfitB D (p.R.map Lr.L) = true ∧ risB (p.R.map Lr.L) } => .tuple #[.slice p.1.o p.1.R.length p.1.c, iv 0]) (fun p => St w.heap.size (TbL p.1.o p.1.c p.1.R)) (fun β w' _ hbw => h13 y w' (by repeat (first | exact hbw | replace hbw := hbw.1)) (St.now hbw.2)) ?_; intro p; have hRl := hRl p))
        |((with_reducible show CallEv _ _ 15 ..); refine callE (fun β w' hbw => h15 w' (by repeat (first | exact hbw | replace hbw := hbw.1))) ?_)
        |refine Exists.intro (α := Value) (iv mn) ⟨cv5i mn hmn, ?_⟩
        |refine Exists.intro (α := Int) ((mn % 60 : Nat) : Int) ⟨⟨by omega, hm60⟩, ?_⟩
      all_goals exact ⟨rfl, p, trivial, Ent.weak rfl ⟨rfl, rfl, by rw [← longE]; rfl, trivial⟩ ⟨rfl, trivial⟩ fun w' h => ⟨h.1.1, h.2⟩⟩
    · obtain ⟨⟨o, c, R⟩, hf, hri⟩ := p
      have hf0 := hf
      unfold rfitB at hf0
      simp only [Bool.and_eq_true, decide_eq_true_eq] at hf0
      have hl2 := hRl ⟨⟨o, c, R⟩, hf, hri⟩
      dsimp only at hl2
      exact Ls_loop sl ro su _ go to gc tc G T o c R w h hB (by rw [hD]; exact hv) (by rw [hD]; exact Fit.of hv hf) (by omega) (fun r hr => by
       have h2 := List.all_eq_true.1 hf0.2.1 r.L (List.mem_map_of_mem hr)
       unfold sltB at h2
       simp only [Bool.and_eq_true, decide_eq_true_eq] at h2
       have := (scOk_iff.1 hv).2.1
       omega) (by omega)
end Go.Proofs.YtkbfcofifhngfaaGreat
namespace Go.Proofs.YtkbfcofifhngfaaGreat
open Go Tx Go.RowKit Go.WideShapes
abbrev I64 (n : Int) : Prop := -9223372036854775808 ≤ n ∧ n ≤ 9223372036854775807
def shI : Shp := .int .i64
def shTe : Shp := .agg [.sl 1 shI, shI]
def shSc : Shp := .agg [shI, shI, shI, .sl 1 (.sl 1 shI), .sl 2 shTe]
theorem op_slc {α : Type} {w : World} {sz : Nat} {e : Shp} {f : α → List Value} {Q : α → Prop} (he : ∀ es, e.rd w es → ∃ x, es = f x ∧ Q x) {cs : List Value} (h : (Shp.sl sz e).rd w cs) :
 ∃ (o : Option Addr) (c : Nat) (xs : List α), cs = [.slice o xs.length c] ∧ Rd sz f (.slice o xs.length c) xs w ∧ xs.length ≤ 9223372036854775807 ∧ ∀ x ∈ xs, Q x := by
 unfold Shp.rd at h
 rcases h with rfl | ⟨a, n, c, rfl, h1, h2, h3⟩
 · exact ⟨none, 0, [], rfl, .inl ⟨rfl, rfl⟩, by simp, fun x hx => by simp at hx⟩
 · obtain ⟨xs, hl, hb⟩ := list_of (Q := fun i (x : α) => (∀ j v, (f x)[j]? = some v → w.cell? ((a.add (i * sz)).add j) = some v) ∧ Q x) n fun i hi => by
    obtain ⟨es, _, e2, e3⟩ := h3 i hi
    obtain ⟨x, rfl, hx⟩ := he es e3
    exact ⟨x, e2, hx⟩
   subst hl
   exact ⟨some a, c, xs, rfl, .inr ⟨a, c, rfl, fun k b hk => (hb k b hk).1⟩, by unfold maxLen at h2; omega, fun x hx => by
    obtain ⟨k, hk⟩ := List.mem_iff_getElem?.1 hx
    exact (hb k x hk).2⟩
theorem op_i {w : World} {es : List Value} (h : shI.rd w es) : ∃ n : Int, es = iF n ∧ I64 n := by
 simp only [shI, Shp.rd] at h
 obtain ⟨n, rfl, g⟩ := h
 exact ⟨n, rfl, wf64 g⟩
theorem op_ints {w : World} {cs : List Value} (h : (Shp.sl 1 shI).rd w cs) : ∃ (o : Option Addr) (c : Nat) (xs : List Int), cs = [.slice o xs.length c] ∧ Rd 1 iF (.slice o xs.length c) xs w ∧ xs.length ≤ 9223372036854775807 ∧ ∀ x ∈ xs, I64 x :=
 op_slc (f := iF) (Q := I64) (fun es h => op_i h) h
theorem op_rw {w : World} {es : List Value} (h : (Shp.sl 1 shI).rd w es) : ∃ r : Rw, es = Rw.cs r ∧ Rd 1 iF r.v r.xs w ∧ r.xs.length ≤ 9223372036854775807 := by
 obtain ⟨o, c, xs, h1, h2, h3, _⟩ := op_ints h
 exact ⟨⟨o, c, xs⟩, h1, h2, h3⟩
theorem op_te {w : World} {es : List Value} (h : shTe.rd w es) : ∃ s : Tc, es = Tc.cs s ∧ Rd 1 iF (.slice s.o s.T.length s.c) s.T w ∧ s.T.length ≤ 9223372036854775807 ∧ I64 s.h := by
 simp only [shTe, Shp.rd.eq_3, Shp.rds] at h
 obtain ⟨_, _, rfl, h2, _, _, rfl, h3, rfl⟩ := h
 obtain ⟨n0, rfl, g0⟩ := op_i h3
 obtain ⟨o, c, xs, rfl, h3, h4, _⟩ := op_ints h2
 exact ⟨⟨o, c, xs, n0⟩, rfl, h3, h4, g0⟩
theorem op_school {w : World} {cs : List Value} (h : shSc.rd w cs) : ∃ x : Sc, cs = [iv x.sl, iv x.ro, iv x.su, .slice x.go x.G.length x.gc, .slice x.to x.T.length x.tc] ∧ ScIn x w ∧ ScX x ∧ (I64 x.sl ∧ I64 x.ro ∧ I64 x.su ∧ ∀ t ∈ x.T, I64 t.h) := by
 unfold shSc at h
 simp only [Shp.rd.eq_3, Shp.rds] at h
 obtain ⟨_, _, rfl, h1, _, _, rfl, h2, _, _, rfl, h3, _, _, rfl, h4, _, _, rfl, h5, rfl⟩ := h
 obtain ⟨n1, rfl, g1⟩ := op_i h1
 obtain ⟨n2, rfl, g2⟩ := op_i h2
 obtain ⟨n3, rfl, g3⟩ := op_i h3
 obtain ⟨go, gc, G, rfl, b1, b2, b3⟩ := op_slc (f := Rw.cs) (Q := fun r => Rd 1 iF r.v r.xs w ∧ r.xs.length ≤ 9223372036854775807) (fun es h => op_rw h) h4
 obtain ⟨to, tc, T, rfl, d1, d2, d3⟩ := op_slc (f := Tc.cs) (Q := fun s => Rd 1 iF (.slice s.o s.T.length s.c) s.T w ∧ s.T.length ≤ 9223372036854775807 ∧ I64 s.h) (fun es h => op_te h) h5
 exact ⟨⟨n1, n2, n3, go, gc, G, to, tc, T⟩, rfl, ⟨b1, fun r hr => (b3 r hr).1, d1, fun t ht => (d3 t ht).1⟩, ⟨b2, fun r hr => (b3 r hr).2, d2, fun t ht => (d3 t ht).2.1⟩, g1, g2, g3, fun t ht => (d3 t ht).2.2⟩
theorem op_cap {w : World} {sz : Nat} {e : Shp} {o : Option Addr} {n c : Nat} (h : (Shp.sl sz e).rd w [.slice o n c]) : n ≤ c := by
 unfold Shp.rd at h
 rcases h with h | ⟨a, n', c', h, h1, h2, h3⟩
 · simp only [List.cons.injEq, Value.slice.injEq] at h; omega
 · simp only [List.cons.injEq, Value.slice.injEq] at h; omega
theorem op_schoolC {w : World} {cs : List Value} (h : shSc.rd w cs) : ∃ x : Sc, cs = [iv x.sl, iv x.ro, iv x.su, .slice x.go x.G.length x.gc, .slice x.to x.T.length x.tc] ∧ ScIn x w ∧ ScX x ∧ x.G.length ≤ x.gc ∧ x.T.length ≤ x.tc := by
 have h0 := h
 obtain ⟨x, rfl, h1, h2, _⟩ := op_school h0
 refine ⟨x, rfl, h1, h2, ?_⟩
 unfold shSc at h
 simp only [Shp.rd.eq_3, Shp.rds] at h
 obtain ⟨a1, b1, e1, k1, a2, b2, e2, k2, a3, b3, e3, k3, a4, b4, e4, k4, a5, b5, e5, k5, e6⟩ := h
 obtain ⟨n1, rfl, _⟩ := op_i k1
 obtain ⟨n2, rfl, _⟩ := op_i k2
 obtain ⟨n3, rfl, _⟩ := op_i k3
 obtain ⟨go, gc, G, rfl, _⟩ := op_slc (f := Rw.cs) (Q := fun r => Rd 1 iF r.v r.xs w ∧ r.xs.length ≤ 9223372036854775807) (fun es h => op_rw h) k4
 obtain ⟨to, tc, T, rfl, _⟩ := op_slc (f := Tc.cs) (Q := fun s => Rd 1 iF (.slice s.o s.T.length s.c) s.T w ∧ s.T.length ≤ 9223372036854775807 ∧ I64 s.h) (fun es h => op_te h) k5
 subst e6
 simp at e1
 obtain ⟨_, rfl⟩ := e1
 simp at e2
 obtain ⟨_, rfl⟩ := e2
 simp at e3
 obtain ⟨_, rfl⟩ := e3
 simp at e4
 obtain ⟨⟨rfl, hgl, rfl⟩, rfl⟩ := e4
 simp at e5
 obtain ⟨rfl, htl, rfl⟩ := e5
 have q1 := op_cap k4
 have q2 := op_cap k5
 omega
theorem wfu8 {a : Int} (h : (Lit.int .u8 a).wf = true) : ∃ k : Nat, a = k ∧ k < 256 := by
 simp [Lit.wf, IntKind.min, IntKind.max, IntKind.bits, IntKind.signed] at h
 exact ⟨a.toNat, by omega, by omega⟩
end Go.Proofs.YtkbfcofifhngfaaGreat
