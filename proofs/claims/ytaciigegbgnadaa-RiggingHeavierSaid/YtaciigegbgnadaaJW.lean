/- RiggingHeavier answers true. By JW.py. -/
import Derived.Test.YtaciigegbgnadaaJV
import Derived.Test.YtaciigegbgnadaaJH
import Derived.Test.YtaciigegbgnadaaIU
namespace Go.Proofs.Ytaciigegbgnadaa
open Go Tx Go.RowKit
set_option linter.unusedSimpArgs false
set_option linter.unusedVariables false

theorem rd_quad' {ad : Addr} {n c : Nat} {L : List ((Int × Int) × (Int × Int))} {w : World} (h : Rd 4 f4 (.slice (some ad) n c) L w) {k : Nat} {a b d e : Int} (hk : L[k]? = some ((a, b), (d, e))) :
    (∀ j v, [iv a][j]? = some v → w.cell? ((((ad.add ((k : Int).toNat * 4)).add ((0 : Int).toNat * 2)).add 0).add j) = some v) ∧ (∀ j v, [iv b][j]? = some v → w.cell? ((((ad.add ((k : Int).toNat * 4)).add ((0 : Int).toNat * 2)).add 1).add j) = some v) ∧
    (∀ j v, [iv d][j]? = some v → w.cell? ((((ad.add ((k : Int).toNat * 4)).add ((1 : Int).toNat * 2)).add 0).add j) = some v) ∧ (∀ j v, [iv e][j]? = some v → w.cell? ((((ad.add ((k : Int).toNat * 4)).add ((1 : Int).toNat * 2)).add 1).add j) = some v) := by
  refine ⟨fun j v h1 => ?_, fun j v h1 => ?_, fun j v h1 => ?_, fun j v h1 => ?_⟩ <;> rw [Addr.add_add, Addr.add_add] <;> (match j, h1 with | 0, h1 => ?_)
  · exact rd_ati h hk 0 _ h1
  · exact rd_ati h hk 1 _ h1
  · exact rd_ati h hk 2 _ h1
  · exact rd_ati h hk 3 _ h1
theorem len5h (L : List Ld) : (L.flatMap Ld.cs).length = L.length * 5 := by
  induction L with
  | nil => rfl
  | cons a L ih => simp only [List.flatMap_cons, List.length_append, ih, List.length_cons, List.length_nil]; omega
theorem len8 (L : List Bm) : (L.flatMap Bm.cs).length = L.length * 8 := by
  induction L with
  | nil => rfl
  | cons a L ih => simp only [List.flatMap_cons, List.length_append, ih, List.length_cons, List.length_nil]; omega
/-- An element's cell changed, in a row that is told by its elements. -/
theorem flat_upd {α : Type} {sz : Nat} {f : α → List Value} (hf : ∀ x, (f x).length = sz) {L : List α} {k o : Nat} {x y : α} (hk : L[k]? = some x) (ho : o < sz) {v : Value} (hy : f y = (f x).set o v) : (L.flatMap f).take (k * sz + o) ++ [v] ++ (L.flatMap f).drop (k * sz + o + 1) = (L.set k y).flatMap f := by
  have hlt := (List.getElem?_eq_some_iff.1 hk).1
  have hl : ∀ M : List α, (M.flatMap f).length = M.length * sz := fun M => by
    induction M with
    | nil => simp
    | cons a M ih => rw [List.flatMap_cons, List.length_append, ih, hf, List.length_cons, Nat.succ_mul]; omega
  have hdec : L = L.take k ++ x :: L.drop (k + 1) := by
    rw [List.getElem?_eq_getElem hlt, Option.some.injEq] at hk
    rw [← hk, List.getElem_cons_drop, List.take_append_drop]
  have hset : L.set k y = L.take k ++ y :: L.drop (k + 1) := by rw [List.set_eq_take_append_cons_drop, if_pos hlt]
  have hX : ((L.take k).flatMap f).length = k * sz := by rw [hl, List.length_take, Nat.min_eq_left (by omega)]
  have e1 : L.flatMap f = (L.take k).flatMap f ++ (f x ++ (L.drop (k + 1)).flatMap f) := by
    conv => lhs; rw [hdec]
    rw [List.flatMap_append, List.flatMap_cons]
  rw [hset, List.flatMap_append, List.flatMap_cons, hy, e1, List.set_eq_take_append_cons_drop, if_pos (by rw [hf]; exact ho)]
  generalize (L.take k).flatMap f = X at *
  generalize (L.drop (k + 1)).flatMap f = Y at *
  have hfx := hf x
  generalize f x = Z at *
  rw [List.take_append, List.drop_append, hX, show k * sz + o - k * sz = o from by omega, show k * sz + o + 1 - k * sz = o + 1 from by omega, List.take_of_length_le (by omega), List.drop_eq_nil_of_le (by omega), List.take_append_of_le_length (by omega), List.drop_append_of_le_length (by omega)]
  simp
theorem up_hi {L : List Ld} {k : Nat} {l : Ld} (hk : L[k]? = some l) (v : Int) : (L.flatMap Ld.cs).take ((k : Int).toNat * ti69.size + 4) ++ [iv v] ++ (L.flatMap Ld.cs).drop ((k : Int).toNat * ti69.size + 4 + [iv v].length) = (L.set k (hiE l v)).flatMap Ld.cs := by
  rw [Int.toNat_natCast, show ti69.size = 5 from rfl]
  exact flat_upd (sz := 5) (fun _ => rfl) hk (by omega) rfl
theorem up_wt {L : List Bm} {k : Nat} {m : Bm} (hk : L[k]? = some m) (v : Int) : (L.flatMap Bm.cs).take ((k : Int).toNat * ti107.size + 6) ++ [iv v] ++ (L.flatMap Bm.cs).drop ((k : Int).toNat * ti107.size + 6 + [iv v].length) = (L.set k (wtE m v)).flatMap Bm.cs := by
  rw [Int.toNat_natCast, show ti107.size = 8 from rfl]
  exact flat_upd (sz := 8) (fun _ => rfl) hk (by omega) rfl
theorem up_hl {L : List Ld} {k : Nat} (hk : k < L.length) (v : Int) : (k : Int).toNat * 5 + 4 + [iv v].length ≤ (L.flatMap Ld.cs).length := by
  rw [Int.toNat_natCast, len5h]; simp only [List.length_cons, List.length_nil]; omega
theorem up_wl {L : List Bm} {k : Nat} (hk : k < L.length) (v : Int) : (k : Int).toNat * 8 + 6 + [iv v].length ≤ (L.flatMap Bm.cs).length := by
  rw [Int.toNat_natCast, len8]; simp only [List.length_cons, List.length_nil]; omega
theorem at_hi {L : List Ld} {k : Nat} {l : Ld} (hk : L[k]? = some l) : ∀ j v, [iv l.hi][j]? = some v → (L.flatMap Ld.cs)[(k : Int).toNat * 5 + 4 + j]? = some v := fun j v hj => by
  match j, hj with
  | 0, hj => rw [Int.toNat_natCast]; exact flat_get (f := Ld.cs) (sz := 5) (fun _ => rfl) L k 4 l v hk hj
theorem at_wt {L : List Bm} {k : Nat} {m : Bm} (hk : L[k]? = some m) : ∀ j v, [iv m.wt][j]? = some v → (L.flatMap Bm.cs)[(k : Int).toNat * 8 + 6 + j]? = some v := fun j v hj => by
  match j, hj with
  | 0, hj => rw [Int.toNat_natCast]; exact flat_get (f := Bm.cs) (sz := 8) (fun _ => rfl) L k 6 m v hk hj
theorem imin_bd (x y : Int) : imin x y ≤ x ∧ imin x y ≤ y ∧ (imin x y = x ∨ imin x y = y) := by unfold imin; split <;> omega

set_option maxHeartbeats 16000000 in
set_option maxRecDepth 100000 in
theorem HvRest (po bo lo : Option Addr) (pn pc bn bc ln lc : Nat) (f0 f1 f2 : Int) (PP : List Int) (BB : List Bm) (LL : List Ld) (w : World) (hX : RigX ⟨po, pn, pc, bo, bn, bc, f0, f1, f2, lo, ln, lc⟩ PP BB LL w) (hr : rigOk f0 f1 f2 PP BB LL = true) (B2 : List Bm) (L2 : List Ld) (g0 g1 g2 : Int) (hr2 : rigOk g0 g1 g2 PP B2 L2 = true) (hbl : B2.length = BB.length)
    (hle : ∀ b a, qv (b, a) → endD ⟨po, pn, pc, bo, bn, bc, f0, f1, f2, lo, ln, lc⟩ LL (rowP (frF BB LL) b a) true ≤ endD ⟨po, pn, pc, bo, bn, bc, g0, g1, g2, lo, ln, lc⟩ L2 (rowP (frF B2 L2) b a) true) (hlo : ∀ b a, qv (b, a) → 0 ≤ endD ⟨po, pn, pc, bo, bn, bc, f0, f1, f2, lo, ln, lc⟩ LL (rowP (frF BB LL) b a) false) (y : (Option Addr × Nat) × (Option Addr × Nat) × (Option Addr × Nat)) : VC Try.prog (rest 4 body12) ⟨223, [(4, .ptr 0 0), (9, .ptr 7 0)], [(0, .cells [.v (.slice po pn pc), .v (.slice bo bn bc), .v (iv f0), .v (iv f1), .v (iv f2), .v (.slice lo ln lc)] 48), (7, .cells [.v (sV PP.length y.1), .v (sV B2.length y.2.1), .v (iv g0), .v (iv g1), .v (iv g2), .v (sV L2.length y.2.2)] 58)], 8, fun w2 => Below w.heap.size w w2 ∧ nrH PP B2 L2 y w2, z0⟩ (endΦ env Try.f12 fun s σ => (∀ β, s.c β = .bool true) ∧ ∀ w', σ.h w' → Below w.heap.size w w') := by
  refine VC.of env mixed ?_
  have hri := rigOk_iff.1 hr
  have hri2 := rigOk_iff.1 hr2
  have hm12 : BB.length ≤ 12 := hri.2.2.1
  have hl20 : LL.length ≤ 20 := hri.2.2.2.2.1
  have hl20' : L2.length ≤ 20 := hri2.2.2.2.2.1
  have hP1 := hri.1
  have hin := hX.rin (by omega) (by omega) (by omega)
  have h30 := fun (w' : World) (hb : Below w.heap.size w w') => Rig_ok ⟨po, pn, pc, bo, bn, bc, f0, f1, f2, lo, ln, lc⟩ PP BB LL w' (hin.below hb) (by omega) (by omega)
  have h38a := fun (y : (Option Addr × Nat) × (Option Addr × Nat) × (Option Addr × Nat)) (w' : World) (h : nrH PP BB LL y w') => Ranges_nr PP BB LL f0 f1 f2 ⟨po, pn, pc, bo, bn, bc, f0, f1, f2, lo, ln, lc⟩ hr ⟨rfl, rfl, rfl⟩ y w' h (by omega) (by omega) (by omega)
  have h38b := fun (w' : World) (h : nrH PP B2 L2 y w') => Ranges_nr PP B2 L2 g0 g1 g2 ⟨po, pn, pc, bo, bn, bc, g0, g1, g2, lo, ln, lc⟩ hr2 ⟨rfl, rfl, rfl⟩ y w' h (by omega) (by omega) (by omega)
  have hPT : ∀ j, j < PP.length → ∃ a b c d, (rgPt ⟨po, pn, pc, bo, bn, bc, f0, f1, f2, lo, ln, lc⟩ LL (frF BB LL) PP.length)[j]? = some (a, b) ∧ (rgPt ⟨po, pn, pc, bo, bn, bc, g0, g1, g2, lo, ln, lc⟩ L2 (frF B2 L2) PP.length)[j]? = some (c, d) ∧ 0 ≤ a ∧ b ≤ d := fun j hj => by
    have q : qv ((-1 : Int), (j : Int)) := qv_p j
    have h1 := hlo _ _ q
    have h2 := hle _ _ q
    rw [rowP_p'] at h1 h2
    rw [rowP_p'] at h2
    exact ⟨_, _, _, _, rng_at (fun j => rgW ⟨po, pn, pc, bo, bn, bc, f0, f1, f2, lo, ln, lc⟩ LL ((frF BB LL).p j)) hj, rng_at (fun j => rgW ⟨po, pn, pc, bo, bn, bc, g0, g1, g2, lo, ln, lc⟩ L2 ((frF B2 L2).p j)) hj, h1, h2⟩
  have hHT : ∀ i, i < BB.length → ∃ a b c d a' b' c' d', (rgHg ⟨po, pn, pc, bo, bn, bc, f0, f1, f2, lo, ln, lc⟩ LL (frF BB LL) BB.length)[i]? = some ((a, b), (a', b')) ∧ (rgHg ⟨po, pn, pc, bo, bn, bc, g0, g1, g2, lo, ln, lc⟩ L2 (frF B2 L2) B2.length)[i]? = some ((c, d), (c', d')) ∧ (0 ≤ a ∧ b ≤ d) ∧ 0 ≤ a' ∧ b' ≤ d' := fun i hi => by
    have q0 : qv ((i : Int), ((0 : Nat) : Int)) := qv_h i (by omega)
    have q1 : qv ((i : Int), ((1 : Nat) : Int)) := qv_h i (by omega)
    have h1 := hlo _ _ q0
    have h2 := hle _ _ q0
    have h3 := hlo _ _ q1
    have h4 := hle _ _ q1
    rw [rowP_h'] at h1 h2 h3 h4
    rw [rowP_h'] at h2 h4
    exact ⟨_, _, _, _, _, _, _, _, rng_at (fun j => (rgW ⟨po, pn, pc, bo, bn, bc, f0, f1, f2, lo, ln, lc⟩ LL ((frF BB LL).h j 0), rgW ⟨po, pn, pc, bo, bn, bc, f0, f1, f2, lo, ln, lc⟩ LL ((frF BB LL).h j 1))) hi, rng_at (fun j => (rgW ⟨po, pn, pc, bo, bn, bc, g0, g1, g2, lo, ln, lc⟩ L2 ((frF B2 L2).h j 0), rgW ⟨po, pn, pc, bo, bn, bc, g0, g1, g2, lo, ln, lc⟩ L2 ((frF B2 L2).h j 1))) (by omega), ⟨h1, h2⟩, h3, h4⟩
  clear hle hlo
  generalize rgPt ⟨po, pn, pc, bo, bn, bc, f0, f1, f2, lo, ln, lc⟩ LL (frF BB LL) PP.length = RP at *
  generalize rgHg ⟨po, pn, pc, bo, bn, bc, f0, f1, f2, lo, ln, lc⟩ LL (frF BB LL) BB.length = RH at *
  generalize rgPt ⟨po, pn, pc, bo, bn, bc, g0, g1, g2, lo, ln, lc⟩ L2 (frF B2 L2) PP.length = SP at *
  generalize rgHg ⟨po, pn, pc, bo, bn, bc, g0, g1, g2, lo, ln, lc⟩ L2 (frF B2 L2) B2.length = SH at *
  have hpn := hX.pn
  have hbn := hX.bn
  dsimp only at hpn hbn h30
  clear hX hin
  obtain ⟨⟨y11, y12⟩, ⟨y21, y22⟩, y31, y32⟩ := y
  repeat'
   conv => whnf
   first
    | refine zA ?_ | refine zB ?_ | refine zC ?_ | refine zD ?_ | refine zE ?_ | refine zF ?_ | refine zG ?_ | refine zH ?_ | refine zJ ?_ | refine zI ?_ | refine splT ?_ | refine splF ?_ | refine splNot ?_
    | ((first | refine splIn (fun hc => ?_) (fun hc => ?_) | refine splD (fun hc => ?_) (fun hc => ?_) | refine splE (fun hc => ?_) (fun hc => ?_) | refine splNE (fun hc => ?_) (fun hc => ?_)) <;> first | (exfalso; omega) | (exfalso; dsimp only at hc; omega) | skip)
    | ((with_reducible show CallEv _ _ 30 _ _ _ _ _); refine callF [] (nrV PP BB LL f0 f1 f2) (nrH PP BB LL) (fun β w' _ hbw => h30 w' hbw.1) ?_; intro y0; obtain ⟨⟨v1, v2⟩, ⟨v3, v4⟩, v5, v6⟩ := y0; dsimp only)
    | ((with_reducible show CallEv _ _ 38 [.v (nrV PP BB LL f0 f1 f2 ((v1, v2), (v3, v4), v5, v6))] _ _ _ _); refine callF [] (fun z : YS RP × YS RH => .tuple #[sV PP.length z.1.1, sV BB.length z.2.1, iv 0]) (fun z w2 => Rd 2 gF (sV PP.length z.1.1) RP w2 ∧ Rd 4 f4 (sV BB.length z.2.1) RH w2) (fun β w' _ hbw => h38a ((v1, v2), (v3, v4), v5, v6) w' hbw.2) ?_; intro z; obtain ⟨⟨⟨z1, z2⟩, hz0⟩, ⟨⟨z3, z4⟩, hz3⟩⟩ := z; dsimp only at hz0 hz3 ⊢)
    | ((with_reducible show CallEv _ _ 38 _ _ _ _ _); refine callF [] (fun z : YS SP × YS SH => .tuple #[sV PP.length z.1.1, sV B2.length z.2.1, iv 0]) (fun z w2 => Rd 2 gF (sV PP.length z.1.1) SP w2 ∧ Rd 4 f4 (sV B2.length z.2.1) SH w2) (fun β w' _ hbw => h38b w' hbw.1.1.2) ?_; intro z; obtain ⟨⟨⟨x1, x2⟩, hx0⟩, ⟨⟨x3, x4⟩, hx3⟩⟩ := z; dsimp only at hx0 hx3 ⊢)
  all_goals first | (exfalso; omega) | skip
  obtain ⟨zp, rfl⟩ := hz0.resolve_left fun hc => by obtain ⟨a, b, c, d, q1, q2, _⟩ := hPT 0 (by omega); rw [hc] at q1; simp at q1
  obtain ⟨xp, rfl⟩ := hx0.resolve_left fun hc => by obtain ⟨a, b, c, d, q1, q2, _⟩ := hPT 0 (by omega); rw [hc] at q2; simp at q2
  refine loopN 8 (fun k : Nat => [(13, .v (sV PP.length (some zp, z2))), (16, .v (sV PP.length (some xp, x2))), (14, .v (sV BB.length (z3, z4))), (17, .v (sV B2.length (x3, x4))), (19, .v (iv k))]) (fun _ => [(0, .cells [.v (.slice po pn pc), .v (.slice bo bn bc), .v (iv f0), .v (iv f1), .v (iv f2), .v (.slice lo ln lc)] 48)]) (fun k => k ≤ PP.length) (fun k => PP.length - k) 0 (Nat.zero_le _) ⟨rfl, rfl, rfl, rfl, rfl, trivial⟩ ⟨rfl, trivial⟩ (fun _ _ => ⟨rfl, rfl⟩) ?_
  intro k hk
  rcases Nat.lt_or_ge k PP.length with hkl | hkl
  · obtain ⟨a, b, c, d, q1, q2, q3, q4⟩ := hPT k hkl
    repeat'
     conv => whnf
     first
      | refine zA ?_ | refine zB ?_ | refine zC ?_ | refine zD ?_ | refine zE ?_ | refine zF ?_ | refine zG ?_ | refine zH ?_ | refine zJ ?_ | refine zI ?_ | refine splT ?_ | refine splF ?_ | refine splNot ?_
      | ((first | refine splIn (fun hc => ?_) (fun hc => ?_) | refine splD (fun hc => ?_) (fun hc => ?_) | refine splE (fun hc => ?_) (fun hc => ?_) | refine splNE (fun hc => ?_) (fun hc => ?_)) <;> first | (exfalso; omega) | (exfalso; dsimp only at hc; omega) | skip)
      | refine Exists.intro (α := List Value) [iv b] ⟨⟨rfl, fun w' hw' => rd_fld hw'.1.2.1 q1 1 (iv b) rfl⟩, ?_⟩
      | refine Exists.intro (α := List Value) [iv a] ⟨⟨rfl, fun w' hw' => rd_fld hw'.1.2.1 q1 0 (iv a) rfl⟩, ?_⟩
      | refine Exists.intro (α := List Value) [iv d] ⟨⟨rfl, fun w' hw' => rd_fld hw'.2.1 q2 1 (iv d) rfl⟩, ?_⟩
    all_goals first | (exfalso; omega) | exact ⟨k + 1, by omega, by omega, Ent.weak rfl ⟨rfl, rfl, rfl, rfl, rfl, trivial⟩ ⟨rfl, trivial⟩ fun _ h => h⟩
  obtain rfl : k = PP.length := by omega
  repeat'
   conv => whnf
   first
    | refine zA ?_ | refine zB ?_ | refine zC ?_ | refine zD ?_ | refine zE ?_ | refine zF ?_ | refine zG ?_ | refine zH ?_ | refine zJ ?_ | refine zI ?_ | refine splT ?_ | refine splF ?_ | refine splNot ?_
    | ((first | refine splIn (fun hc => ?_) (fun hc => ?_) | refine splD (fun hc => ?_) (fun hc => ?_) | refine splE (fun hc => ?_) (fun hc => ?_) | refine splNE (fun hc => ?_) (fun hc => ?_)) <;> first | (exfalso; omega) | (exfalso; dsimp only at hc; omega) | skip)
  all_goals first | (exfalso; omega) | skip
  refine loopN 8 (fun k : Nat => [(14, .v (sV BB.length (z3, z4))), (17, .v (sV B2.length (x3, x4))), (20, .v (iv k))]) (fun _ => [(0, .cells [.v (.slice po pn pc), .v (.slice bo bn bc), .v (iv f0), .v (iv f1), .v (iv f2), .v (.slice lo ln lc)] 48)]) (fun k => k ≤ BB.length) (fun k => BB.length - k) 0 (Nat.zero_le _) ⟨rfl, rfl, rfl, trivial⟩ ⟨rfl, trivial⟩ (fun _ _ => ⟨rfl, rfl⟩) ?_
  clear hk hkl
  intro k hk
  rcases Nat.lt_or_ge k BB.length with hkl | hkl
  · obtain ⟨a, b, c, d, a', b', c', d', q1, q2, q3, q4, q5⟩ := hHT k hkl
    obtain ⟨zh, rfl⟩ := hz3.resolve_left fun hc => by rw [hc] at q1; simp at q1
    obtain ⟨xh, rfl⟩ := hx3.resolve_left fun hc => by rw [hc] at q2; simp at q2
    have e1 := fun (w' : World) (hw' : Rd 4 f4 (sV BB.length (some zh, z4)) RH w') => rd_quad' hw' q1
    have e2 := fun (w' : World) (hw' : Rd 4 f4 (sV B2.length (some xh, x4)) SH w') => rd_quad' hw' q2
    repeat'
     conv => whnf
     first
      | refine zA ?_ | refine zB ?_ | refine zC ?_ | refine zD ?_ | refine zE ?_ | refine zF ?_ | refine zG ?_ | refine zH ?_ | refine zJ ?_ | refine zI ?_ | refine splT ?_ | refine splF ?_ | refine splNot ?_
      | ((first | refine splIn (fun hc => ?_) (fun hc => ?_) | refine splD (fun hc => ?_) (fun hc => ?_) | refine splE (fun hc => ?_) (fun hc => ?_) | refine splNE (fun hc => ?_) (fun hc => ?_)) <;> first | (exfalso; omega) | (exfalso; dsimp only at hc; omega) | skip)
    refine loopN 8 (fun c : Nat => [(14, .v (sV BB.length (some zh, z4))), (17, .v (sV B2.length (some xh, x4))), (20, .v (iv k)), (21, .v (iv c))]) (fun _ => [(0, .cells [.v (.slice po pn pc), .v (.slice bo bn bc), .v (iv f0), .v (iv f1), .v (iv f2), .v (.slice lo ln lc)] 48)]) (fun c => c ≤ 2) (fun c => 2 - c) 0 (Nat.zero_le _) ⟨rfl, rfl, rfl, rfl, trivial⟩ ⟨rfl, trivial⟩ (fun _ _ => ⟨rfl, rfl⟩) ?_
    intro c0 hc0
    obtain rfl | rfl | rfl : c0 = 0 ∨ c0 = 1 ∨ c0 = 2 := by omega
    · skip
      repeat'
       conv => whnf
       first
        | refine zA ?_ | refine zB ?_ | refine zC ?_ | refine zD ?_ | refine zE ?_ | refine zF ?_ | refine zG ?_ | refine zH ?_ | refine zJ ?_ | refine zI ?_ | refine splT ?_ | refine splF ?_ | refine splNot ?_
        | ((first | refine splIn (fun hc => ?_) (fun hc => ?_) | refine splD (fun hc => ?_) (fun hc => ?_) | refine splE (fun hc => ?_) (fun hc => ?_) | refine splNE (fun hc => ?_) (fun hc => ?_)) <;> first | (exfalso; omega) | (exfalso; dsimp only at hc; omega) | skip)
        | refine idxP env rfl rfl rfl rfl (And.intro (by omega) (by omega)) ?_
        | refine Exists.intro (α := List Value) [iv b] ⟨⟨rfl, fun w' hw' => (e1 w' hw'.1.2.2).2.1⟩, ?_⟩
        | refine Exists.intro (α := List Value) [iv a] ⟨⟨rfl, fun w' hw' => (e1 w' hw'.1.2.2).1⟩, ?_⟩
        | refine Exists.intro (α := List Value) [iv d] ⟨⟨rfl, fun w' hw' => (e2 w' hw'.2.2).2.1⟩, ?_⟩
      all_goals first | (exfalso; omega) | exact ⟨1, by omega, by omega, Ent.weak rfl ⟨rfl, rfl, rfl, rfl, trivial⟩ ⟨rfl, trivial⟩ fun _ h => h⟩
    · skip
      repeat'
       conv => whnf
       first
        | refine zA ?_ | refine zB ?_ | refine zC ?_ | refine zD ?_ | refine zE ?_ | refine zF ?_ | refine zG ?_ | refine zH ?_ | refine zJ ?_ | refine zI ?_ | refine splT ?_ | refine splF ?_ | refine splNot ?_
        | ((first | refine splIn (fun hc => ?_) (fun hc => ?_) | refine splD (fun hc => ?_) (fun hc => ?_) | refine splE (fun hc => ?_) (fun hc => ?_) | refine splNE (fun hc => ?_) (fun hc => ?_)) <;> first | (exfalso; omega) | (exfalso; dsimp only at hc; omega) | skip)
        | refine idxP env rfl rfl rfl rfl (And.intro (by omega) (by omega)) ?_
        | refine Exists.intro (α := List Value) [iv b'] ⟨⟨rfl, fun w' hw' => (e1 w' hw'.1.2.2).2.2.2⟩, ?_⟩
        | refine Exists.intro (α := List Value) [iv a'] ⟨⟨rfl, fun w' hw' => (e1 w' hw'.1.2.2).2.2.1⟩, ?_⟩
        | refine Exists.intro (α := List Value) [iv d'] ⟨⟨rfl, fun w' hw' => (e2 w' hw'.2.2).2.2.2⟩, ?_⟩
      all_goals first | (exfalso; omega) | exact ⟨2, by omega, by omega, Ent.weak rfl ⟨rfl, rfl, rfl, rfl, trivial⟩ ⟨rfl, trivial⟩ fun _ h => h⟩
    · skip
      repeat'
       conv => whnf
       first
        | refine zA ?_ | refine zB ?_ | refine zC ?_ | refine zD ?_ | refine zE ?_ | refine zF ?_ | refine zG ?_ | refine zH ?_ | refine zJ ?_ | refine zI ?_ | refine splT ?_ | refine splF ?_ | refine splNot ?_
        | ((first | refine splIn (fun hc => ?_) (fun hc => ?_) | refine splD (fun hc => ?_) (fun hc => ?_) | refine splE (fun hc => ?_) (fun hc => ?_) | refine splNE (fun hc => ?_) (fun hc => ?_)) <;> first | (exfalso; omega) | (exfalso; dsimp only at hc; omega) | skip)
      all_goals first | (exfalso; omega) | exact ⟨k + 1, by omega, by omega, Ent.weak rfl ⟨rfl, rfl, rfl, trivial⟩ ⟨rfl, trivial⟩ fun _ h => h⟩
  obtain rfl : k = BB.length := by omega
  repeat'
   conv => whnf
   first
    | refine zA ?_ | refine zB ?_ | refine zC ?_ | refine zD ?_ | refine zE ?_ | refine zF ?_ | refine zG ?_ | refine zH ?_ | refine zJ ?_ | refine zI ?_ | refine splT ?_ | refine splF ?_ | refine splNot ?_
    | ((first | refine splIn (fun hc => ?_) (fun hc => ?_) | refine splD (fun hc => ?_) (fun hc => ?_) | refine splE (fun hc => ?_) (fun hc => ?_) | refine splNE (fun hc => ?_) (fun hc => ?_)) <;> first | (exfalso; omega) | (exfalso; dsimp only at hc; omega) | skip)
    | ((with_reducible show CallEv _ _ 16 _ _ _ _ _); refine callE (k := 16) (fun β w' hbw => awake_ok _) ?_)
  all_goals first | (exfalso; omega) | exact ⟨fun β => rfl, fun w' h => h.1.1.1.1⟩

set_option maxHeartbeats 16000000 in
set_option maxRecDepth 100000 in
theorem RiggingHeavier_ok (r : Rig) (PP : List Int) (BB : List Bm) (LL : List Ld) (wh at_ by_ : Int) (w : World) (hX : RigX r PP BB LL w) (hwh : 0 ≤ wh ∧ wh ≤ 255) (hat : 0 ≤ at_ ∧ at_ ≤ 255) (hby : 0 ≤ by_ ∧ by_ ≤ 65535) :
    Calls Try.prog 12 #[r.v, .int .u8 wh, .int .u8 at_, .int .u16 by_] w fun e w' => e = .returned (.bool true) ∧ Below w.heap.size w w' := by
  have h27 := fun (w' : World) (hb : Below w.heap.size w w') => Right_ok r PP BB LL w' (hX.below hb)
  cases hr : rigOk r.f0 r.f1 r.f2 PP BB LL with
  | false =>
    rw [hr] at h27
    obtain ⟨po, pn, pc, bo, bn, bc, f0, f1, f2, lo, ln, lc⟩ := r
    refine calls_val env mixed Try.func12 has12 Try.ntmps12 [.agg #[.slice po pn pc, .slice bo bn bc, iv f0, iv f1, iv f2, .slice lo ln lc], .int .u8 wh, .int .u8 at_, .int .u16 by_] (by simp) ?_
    repeat'
     conv => whnf
     first
      | refine zA ?_ | refine zB ?_ | refine zC ?_ | refine zD ?_ | refine zE ?_ | refine zF ?_ | refine zG ?_ | refine zH ?_ | refine zJ ?_ | refine zI ?_ | refine splT ?_ | refine splF ?_ | refine splNot ?_
      | ((first | refine splIn (fun hc => ?_) (fun hc => ?_) | refine splD (fun hc => ?_) (fun hc => ?_) | refine splE (fun hc => ?_) (fun hc => ?_) | refine splNE (fun hc => ?_) (fun hc => ?_)) <;> first | (exfalso; omega) | (exfalso; dsimp only at hc; omega) | skip)
      | ((with_reducible show CallEv _ _ 27 _ _ _ _ _); refine callE (k := 27) (fun β w' hbw => h27 _ hbw) ?_)
      | ((with_reducible show CallEv _ _ 16 _ _ _ _ _); refine callE (k := 16) (fun β w' hbw => awake_ok _) ?_)
    all_goals first | (exfalso; omega) | exact ⟨fun β => rfl, fun w' h => h⟩
  | true =>
  rw [hr] at h27
  have hri := rigOk_iff.1 hr
  have hm12 := hri.2.2.1
  have hl20 := hri.2.2.2.2.1
  have hP1 := hri.1.1
  have hin := hX.rin (by omega) (by omega) (by omega)
  have h48 := fun (w' : World) (hb : Below w.heap.size w w') => inside_ok r PP BB LL w' (hin.below hb) hr
  cases hi : (insL BB LL).all (insQ BB) with
  | false =>
    rw [hi] at h48
    obtain ⟨po, pn, pc, bo, bn, bc, f0, f1, f2, lo, ln, lc⟩ := r
    refine calls_val env mixed Try.func12 has12 Try.ntmps12 [.agg #[.slice po pn pc, .slice bo bn bc, iv f0, iv f1, iv f2, .slice lo ln lc], .int .u8 wh, .int .u8 at_, .int .u16 by_] (by simp) ?_
    repeat'
     conv => whnf
     first
      | refine zA ?_ | refine zB ?_ | refine zC ?_ | refine zD ?_ | refine zE ?_ | refine zF ?_ | refine zG ?_ | refine zH ?_ | refine zJ ?_ | refine zI ?_ | refine splT ?_ | refine splF ?_ | refine splNot ?_
      | ((first | refine splIn (fun hc => ?_) (fun hc => ?_) | refine splD (fun hc => ?_) (fun hc => ?_) | refine splE (fun hc => ?_) (fun hc => ?_) | refine splNE (fun hc => ?_) (fun hc => ?_)) <;> first | (exfalso; omega) | (exfalso; dsimp only at hc; omega) | skip)
      | ((with_reducible show CallEv _ _ 27 _ _ _ _ _); refine callE (k := 27) (fun β w' hbw => h27 _ hbw) ?_)
      | ((with_reducible show CallEv _ _ 48 _ _ _ _ _); refine callE (k := 48) (fun β w' hbw => h48 _ hbw) ?_)
      | ((with_reducible show CallEv _ _ 16 _ _ _ _ _); refine callE (k := 16) (fun β w' hbw => awake_ok _) ?_)
    all_goals first | (exfalso; omega) | exact ⟨fun β => rfl, fun w' h => h⟩
  | true =>
  rw [hi] at h48
  have hins := insA_of hr hi
  have hfa := hri.2.2.2.2.2.1
  have hlo := fun b a (hq : qv (b, a)) => lo_nn hr hins (r := r) hq
  have hfb : (1000 ≤ r.f0 ∧ r.f0 ≤ 20000) ∧ (1000 ≤ r.f1 ∧ r.f1 ≤ 20000) ∧ (1000 ≤ r.f2 ∧ r.f2 ≤ 20000) := by
    simp only [List.all_cons, List.all_nil, Bool.and_true, Bool.and_eq_true, inB_iff] at hfa
    exact hfa
  have hfn : ∀ k, 0 ≤ r.fac k := fun k => by unfold Rig.fac; split <;> omega
  have h30 := fun (p0 : Int) (PP' : List Int) (hp : PP = p0 :: PP') (w' : World) (hb : Below w.heap.size w w') => Rig_own r p0 PP' BB LL w' (by rw [← hp]; exact hin.below hb) (by omega) (by omega)
  -- what may be changed
  have hF : ∀ g0 g1 g2, (r.f0 ≤ g0 ∧ g0 ≤ 20000) → (r.f1 ≤ g1 ∧ g1 ≤ 20000) → (r.f2 ≤ g2 ∧ g2 ≤ 20000) → rigOk g0 g1 g2 PP BB LL = true ∧ ∀ b a, qv (b, a) → endD r LL (rowP (frF BB LL) b a) true ≤ endD ⟨r.po, r.pn, r.pc, r.bo, r.bn, r.bc, g0, g1, g2, r.lo, r.ln, r.lc⟩ LL (rowP (frF BB LL) b a) true := fun g0 g1 g2 h0 h1 h2 => ⟨by
    rw [rigOk_iff] at hr ⊢
    refine ⟨hr.1, hr.2.1, hr.2.2.1, hr.2.2.2.1, hr.2.2.2.2.1, ?_, hr.2.2.2.2.2.2⟩
    simp only [List.all_cons, List.all_nil, Bool.and_true, Bool.and_eq_true, inB_iff]
    omega, fun b a hq => heavier_fac hr hins (fun k => by unfold Rig.fac; split <;> (dsimp only; omega)) hq⟩
  have hL := fun (k : Nat) (l : Ld) (hl : LL[k]? = some l) (v : Int) (hv : l.hi ≤ v ∧ v ≤ 1000000) => (⟨rigOk_hi hr hl hv, fun b a hq => heavier_hi hr hins hfn hl hv hq⟩ : _ ∧ ∀ b a, qv (b, a) → endD r LL (rowP (frF BB LL) b a) true ≤ endD r (LL.set k (hiE l v)) (rowP (frF BB (LL.set k (hiE l v))) b a) true)
  have hW := fun (k : Nat) (m : Bm) (hm : BB[k]? = some m) (v : Int) (hv : m.wt ≤ v ∧ v ≤ 1000000) => (⟨rigOk_wt hr hm (v := v) (by have := (bmOk_iff.1 (bm_at hr hm)).2.2.2.2.2.1; omega), fun b a hq => heavier_wt hr hins hm hv hq⟩ : _ ∧ ∀ b a, qv (b, a) → endD r LL (rowP (frF BB LL) b a) true ≤ endD r LL (rowP (frF (BB.set k (wtE m v)) LL) b a) true)
  have hfin := fun (B2 : List Bm) (L2 : List Ld) (g0 g1 g2 : Int) hr2 hbl hle y => HvRest r.po r.bo r.lo r.pn r.pc r.bn r.bc r.ln r.lc r.f0 r.f1 r.f2 PP BB LL w hX hr B2 L2 g0 g1 g2 hr2 hbl hle hlo y
  have hlb := fun (k : Nat) (l : Ld) (hl : LL[k]? = some l) => (ldOk_iff.1 (List.all_eq_true.1 hri.2.2.2.2.2.2 l (List.mem_of_getElem? hl)))
  have hbb := fun (k : Nat) (m : Bm) (hm : BB[k]? = some m) => (bmOk_iff.1 (bm_at hr hm)).2.2.2.2.2.1
  clear hX hin hlo hins hi hfa hfn
  obtain ⟨po, pn, pc, bo, bn, bc, f0, f1, f2, lo, ln, lc⟩ := r
  dsimp only at h30 h27 h48 hfin hF hL hW hfb hr
  refine calls_valV env mixed Try.func12 has12 Try.ntmps12 [.agg #[.slice po pn pc, .slice bo bn bc, iv f0, iv f1, iv f2, .slice lo ln lc], .int .u8 wh, .int .u8 at_, .int .u16 by_] (by simp) ?_
  cases PP with
  | nil => simp at hP1
  | cons p0 PP =>
  have h30 := h30 p0 PP rfl
  have hm0 := Int.emod_nonneg wh (b := 3) (by omega)
  have hm3 := Int.emod_lt_of_pos wh (b := 3) (by omega)
  have ha0 := Int.emod_nonneg at_ (b := 3) (by omega)
  have ha3 := Int.emod_lt_of_pos at_ (b := 3) (by omega)
  obtain ⟨wz, hwz⟩ : ∃ z, wh % 3 = z := ⟨_, rfl⟩
  rw [hwz] at hm0 hm3
  obtain ⟨az, haz⟩ : ∃ z, at_ % 3 = z := ⟨_, rfl⟩
  rw [haz] at ha0 ha3
  obtain rfl | rfl | rfl : wz = 0 ∨ wz = 1 ∨ wz = 2 := by omega
  · obtain rfl | rfl | rfl : az = 0 ∨ az = 1 ∨ az = 2 := by omega
    · have hi := imin_bd 20000 (f0 + by_)
      obtain ⟨h1, h2⟩ := hF (imin 20000 (f0 + by_)) f1 f2 (by omega) (by omega) (by omega)
      refine VC.cutD env mixed 4 8 (fun y : (Option Addr × Nat) × (Option Addr × Nat) × (Option Addr × Nat) => [(4, .ptr 0 0), (9, .ptr 7 0)]) (fun y => [(0, .cells [.v (.slice po pn pc), .v (.slice bo bn bc), .v (iv f0), .v (iv f1), .v (iv f2), .v (.slice lo ln lc)] 48), (7, .cells [.v (sV (p0 :: PP).length y.1), .v (sV BB.length y.2.1), .v (iv (imin 20000 (f0 + by_))), .v (iv f1), .v (iv f2), .v (sV LL.length y.2.2)] 58)]) (fun y w2 => Below w.heap.size w w2 ∧ nrH (p0 :: PP) BB LL y w2) (fun _ => True) (fun _ _ => ⟨rfl, rfl⟩) ?_ (fun y _ => hfin BB LL _ _ _ h1 rfl h2 y)
      clear hfin hF hL hW h1 h2
      cases BB with
      | nil =>
        cases LL with
        | nil =>
          skip
          repeat'
           conv => whnf
           first
            | refine zA ?_ | refine zB ?_ | refine zC ?_ | refine zD ?_ | refine zE ?_ | refine zF ?_ | refine zG ?_ | refine zH ?_ | refine zJ ?_ | refine zI ?_ | refine splT ?_ | refine splF ?_ | refine splNot ?_
            | ((first | refine splIn (fun hc => ?_) (fun hc => ?_) | refine splD (fun hc => ?_) (fun hc => ?_) | refine splE (fun hc => ?_) (fun hc => ?_) | refine splNE (fun hc => ?_) (fun hc => ?_)) <;> first | (exfalso; omega) | (exfalso; dsimp only at hc; omega) | skip)
            | ((with_reducible show CallEv _ _ 27 _ _ _ _ _); refine callE (k := 27) (fun β w' hbw => h27 _ hbw) ?_)
            | ((with_reducible show CallEv _ _ 48 _ _ _ _ _); refine callE (k := 48) (fun β w' hbw => h48 _ hbw) ?_)
            | ((with_reducible show CallEv _ _ 30 _ _ _ _ _); refine callR [1, 2, 3, 4, 5, 6] [] (rigM 1 (p0 :: PP) ([] : List Bm) ([] : List Ld)) (rigS 1 (PP.length + 1) ([] : List Bm) ([] : List Ld) f0 f1 f2) rfl (fun i b hi => by rcases rigM_mem hi with ⟨rfl, _⟩ | ⟨rfl, _⟩ | ⟨rfl, _⟩ <;> decide) (fun β w' _ hbw => (h30 w' hbw).mono fun e w2 h => rig_mv h) ?_)
            | (refine remE (by omega) (by omega) ?_; rw [hwz])
            | refine Exists.intro (α := Value) (iv at_) ⟨cv8 at_ hat, ?_⟩
            | refine Exists.intro (α := Value) (iv by_) ⟨cv16 by_ hby, ?_⟩
            | (refine remE (by omega) (by omega) ?_; rw [haz])
          all_goals first | (exfalso; omega) | skip
          exact ⟨rfl, Dis.mk [1] (fun i hi => by simp at hi; subst hi; exact ⟨_, rfl, rfl⟩) fun β w1 hb hw => ⟨((some ⟨β 1, 0, none⟩, β 2), (none, 0), (none, 0)), trivial, ⟨⟨_, rfl, rfl⟩, ⟨_, rfl, rfl⟩, trivial⟩, ⟨⟨rfl, _, _, _, rfl, rfl, rfl⟩, ⟨rfl, _, _, _, rfl, rfl, rfl⟩, trivial⟩, fun w2 h2 hb2 => ⟨h2, Rd.of_owns (sz := 1) (f := iF) (fun _ => rfl) rfl rfl (hb2 1 (by simp) _ rfl), .inl ⟨rfl, rfl⟩, .inl ⟨rfl, rfl⟩⟩⟩⟩
        | cons l0 LL =>
          skip
          repeat'
           conv => whnf
           first
            | refine zA ?_ | refine zB ?_ | refine zC ?_ | refine zD ?_ | refine zE ?_ | refine zF ?_ | refine zG ?_ | refine zH ?_ | refine zJ ?_ | refine zI ?_ | refine splT ?_ | refine splF ?_ | refine splNot ?_
            | ((first | refine splIn (fun hc => ?_) (fun hc => ?_) | refine splD (fun hc => ?_) (fun hc => ?_) | refine splE (fun hc => ?_) (fun hc => ?_) | refine splNE (fun hc => ?_) (fun hc => ?_)) <;> first | (exfalso; omega) | (exfalso; dsimp only at hc; omega) | skip)
            | ((with_reducible show CallEv _ _ 27 _ _ _ _ _); refine callE (k := 27) (fun β w' hbw => h27 _ hbw) ?_)
            | ((with_reducible show CallEv _ _ 48 _ _ _ _ _); refine callE (k := 48) (fun β w' hbw => h48 _ hbw) ?_)
            | ((with_reducible show CallEv _ _ 30 _ _ _ _ _); refine callR [1, 2, 3, 4, 5, 6] [] (rigM 1 (p0 :: PP) ([] : List Bm) (l0 :: LL)) (rigS 1 (PP.length + 1) ([] : List Bm) (l0 :: LL) f0 f1 f2) rfl (fun i b hi => by rcases rigM_mem hi with ⟨rfl, _⟩ | ⟨rfl, _⟩ | ⟨rfl, _⟩ <;> decide) (fun β w' _ hbw => (h30 w' hbw).mono fun e w2 h => rig_mv h) ?_)
            | (refine remE (by omega) (by omega) ?_; rw [hwz])
            | refine Exists.intro (α := Value) (iv at_) ⟨cv8 at_ hat, ?_⟩
            | refine Exists.intro (α := Value) (iv by_) ⟨cv16 by_ hby, ?_⟩
            | (refine remE (by omega) (by omega) ?_; rw [haz])
          all_goals first | (exfalso; omega) | skip
          exact ⟨rfl, Dis.mk [1, 5] (fun i hi => by simp at hi; rcases hi with rfl | rfl <;> exact ⟨_, rfl, rfl⟩) fun β w1 hb hw => ⟨((some ⟨β 1, 0, none⟩, β 2), (none, 0), (some ⟨β 5, 0, none⟩, β 6)), trivial, ⟨⟨_, rfl, rfl⟩, ⟨_, rfl, rfl⟩, trivial⟩, ⟨⟨rfl, _, _, _, rfl, rfl, rfl⟩, ⟨rfl, _, _, _, rfl, rfl, rfl⟩, trivial⟩, fun w2 h2 hb2 => ⟨h2, Rd.of_owns (sz := 1) (f := iF) (fun _ => rfl) rfl rfl (hb2 1 (by simp) _ rfl), .inl ⟨rfl, rfl⟩, Rd.of_owns (sz := 5) (f := Ld.cs) (fun _ => rfl) rfl rfl (by exact hb2 5 (by simp) _ rfl)⟩⟩⟩
      | cons b0 BB =>
        cases LL with
        | nil =>
          skip
          repeat'
           conv => whnf
           first
            | refine zA ?_ | refine zB ?_ | refine zC ?_ | refine zD ?_ | refine zE ?_ | refine zF ?_ | refine zG ?_ | refine zH ?_ | refine zJ ?_ | refine zI ?_ | refine splT ?_ | refine splF ?_ | refine splNot ?_
            | ((first | refine splIn (fun hc => ?_) (fun hc => ?_) | refine splD (fun hc => ?_) (fun hc => ?_) | refine splE (fun hc => ?_) (fun hc => ?_) | refine splNE (fun hc => ?_) (fun hc => ?_)) <;> first | (exfalso; omega) | (exfalso; dsimp only at hc; omega) | skip)
            | ((with_reducible show CallEv _ _ 27 _ _ _ _ _); refine callE (k := 27) (fun β w' hbw => h27 _ hbw) ?_)
            | ((with_reducible show CallEv _ _ 48 _ _ _ _ _); refine callE (k := 48) (fun β w' hbw => h48 _ hbw) ?_)
            | ((with_reducible show CallEv _ _ 30 _ _ _ _ _); refine callR [1, 2, 3, 4, 5, 6] [] (rigM 1 (p0 :: PP) (b0 :: BB) ([] : List Ld)) (rigS 1 (PP.length + 1) (b0 :: BB) ([] : List Ld) f0 f1 f2) rfl (fun i b hi => by rcases rigM_mem hi with ⟨rfl, _⟩ | ⟨rfl, _⟩ | ⟨rfl, _⟩ <;> decide) (fun β w' _ hbw => (h30 w' hbw).mono fun e w2 h => rig_mv h) ?_)
            | (refine remE (by omega) (by omega) ?_; rw [hwz])
            | refine Exists.intro (α := Value) (iv at_) ⟨cv8 at_ hat, ?_⟩
            | refine Exists.intro (α := Value) (iv by_) ⟨cv16 by_ hby, ?_⟩
            | (refine remE (by omega) (by omega) ?_; rw [haz])
          all_goals first | (exfalso; omega) | skip
          exact ⟨rfl, Dis.mk [1, 3] (fun i hi => by simp at hi; rcases hi with rfl | rfl <;> exact ⟨_, rfl, rfl⟩) fun β w1 hb hw => ⟨((some ⟨β 1, 0, none⟩, β 2), (some ⟨β 3, 0, none⟩, β 4), (none, 0)), trivial, ⟨⟨_, rfl, rfl⟩, ⟨_, rfl, rfl⟩, trivial⟩, ⟨⟨rfl, _, _, _, rfl, rfl, rfl⟩, ⟨rfl, _, _, _, rfl, rfl, rfl⟩, trivial⟩, fun w2 h2 hb2 => ⟨h2, Rd.of_owns (sz := 1) (f := iF) (fun _ => rfl) rfl rfl (hb2 1 (by simp) _ rfl), Rd.of_owns (sz := 8) (f := Bm.cs) (fun _ => rfl) rfl rfl (by exact hb2 3 (by simp) _ rfl), .inl ⟨rfl, rfl⟩⟩⟩⟩
        | cons l0 LL =>
          skip
          repeat'
           conv => whnf
           first
            | refine zA ?_ | refine zB ?_ | refine zC ?_ | refine zD ?_ | refine zE ?_ | refine zF ?_ | refine zG ?_ | refine zH ?_ | refine zJ ?_ | refine zI ?_ | refine splT ?_ | refine splF ?_ | refine splNot ?_
            | ((first | refine splIn (fun hc => ?_) (fun hc => ?_) | refine splD (fun hc => ?_) (fun hc => ?_) | refine splE (fun hc => ?_) (fun hc => ?_) | refine splNE (fun hc => ?_) (fun hc => ?_)) <;> first | (exfalso; omega) | (exfalso; dsimp only at hc; omega) | skip)
            | ((with_reducible show CallEv _ _ 27 _ _ _ _ _); refine callE (k := 27) (fun β w' hbw => h27 _ hbw) ?_)
            | ((with_reducible show CallEv _ _ 48 _ _ _ _ _); refine callE (k := 48) (fun β w' hbw => h48 _ hbw) ?_)
            | ((with_reducible show CallEv _ _ 30 _ _ _ _ _); refine callR [1, 2, 3, 4, 5, 6] [] (rigM 1 (p0 :: PP) (b0 :: BB) (l0 :: LL)) (rigS 1 (PP.length + 1) (b0 :: BB) (l0 :: LL) f0 f1 f2) rfl (fun i b hi => by rcases rigM_mem hi with ⟨rfl, _⟩ | ⟨rfl, _⟩ | ⟨rfl, _⟩ <;> decide) (fun β w' _ hbw => (h30 w' hbw).mono fun e w2 h => rig_mv h) ?_)
            | (refine remE (by omega) (by omega) ?_; rw [hwz])
            | refine Exists.intro (α := Value) (iv at_) ⟨cv8 at_ hat, ?_⟩
            | refine Exists.intro (α := Value) (iv by_) ⟨cv16 by_ hby, ?_⟩
            | (refine remE (by omega) (by omega) ?_; rw [haz])
          all_goals first | (exfalso; omega) | skip
          exact ⟨rfl, Dis.mk [1, 3, 5] (fun i hi => by simp at hi; rcases hi with rfl | rfl | rfl <;> exact ⟨_, rfl, rfl⟩) fun β w1 hb hw => ⟨((some ⟨β 1, 0, none⟩, β 2), (some ⟨β 3, 0, none⟩, β 4), (some ⟨β 5, 0, none⟩, β 6)), trivial, ⟨⟨_, rfl, rfl⟩, ⟨_, rfl, rfl⟩, trivial⟩, ⟨⟨rfl, _, _, _, rfl, rfl, rfl⟩, ⟨rfl, _, _, _, rfl, rfl, rfl⟩, trivial⟩, fun w2 h2 hb2 => ⟨h2, Rd.of_owns (sz := 1) (f := iF) (fun _ => rfl) rfl rfl (hb2 1 (by simp) _ rfl), Rd.of_owns (sz := 8) (f := Bm.cs) (fun _ => rfl) rfl rfl (by exact hb2 3 (by simp) _ rfl), Rd.of_owns (sz := 5) (f := Ld.cs) (fun _ => rfl) rfl rfl (by exact hb2 5 (by simp) _ rfl)⟩⟩⟩
    · have hi := imin_bd 20000 (f1 + by_)
      obtain ⟨h1, h2⟩ := hF f0 (imin 20000 (f1 + by_)) f2 (by omega) (by omega) (by omega)
      refine VC.cutD env mixed 4 8 (fun y : (Option Addr × Nat) × (Option Addr × Nat) × (Option Addr × Nat) => [(4, .ptr 0 0), (9, .ptr 7 0)]) (fun y => [(0, .cells [.v (.slice po pn pc), .v (.slice bo bn bc), .v (iv f0), .v (iv f1), .v (iv f2), .v (.slice lo ln lc)] 48), (7, .cells [.v (sV (p0 :: PP).length y.1), .v (sV BB.length y.2.1), .v (iv f0), .v (iv (imin 20000 (f1 + by_))), .v (iv f2), .v (sV LL.length y.2.2)] 58)]) (fun y w2 => Below w.heap.size w w2 ∧ nrH (p0 :: PP) BB LL y w2) (fun _ => True) (fun _ _ => ⟨rfl, rfl⟩) ?_ (fun y _ => hfin BB LL _ _ _ h1 rfl h2 y)
      clear hfin hF hL hW h1 h2
      cases BB with
      | nil =>
        cases LL with
        | nil =>
          skip
          repeat'
           conv => whnf
           first
            | refine zA ?_ | refine zB ?_ | refine zC ?_ | refine zD ?_ | refine zE ?_ | refine zF ?_ | refine zG ?_ | refine zH ?_ | refine zJ ?_ | refine zI ?_ | refine splT ?_ | refine splF ?_ | refine splNot ?_
            | ((first | refine splIn (fun hc => ?_) (fun hc => ?_) | refine splD (fun hc => ?_) (fun hc => ?_) | refine splE (fun hc => ?_) (fun hc => ?_) | refine splNE (fun hc => ?_) (fun hc => ?_)) <;> first | (exfalso; omega) | (exfalso; dsimp only at hc; omega) | skip)
            | ((with_reducible show CallEv _ _ 27 _ _ _ _ _); refine callE (k := 27) (fun β w' hbw => h27 _ hbw) ?_)
            | ((with_reducible show CallEv _ _ 48 _ _ _ _ _); refine callE (k := 48) (fun β w' hbw => h48 _ hbw) ?_)
            | ((with_reducible show CallEv _ _ 30 _ _ _ _ _); refine callR [1, 2, 3, 4, 5, 6] [] (rigM 1 (p0 :: PP) ([] : List Bm) ([] : List Ld)) (rigS 1 (PP.length + 1) ([] : List Bm) ([] : List Ld) f0 f1 f2) rfl (fun i b hi => by rcases rigM_mem hi with ⟨rfl, _⟩ | ⟨rfl, _⟩ | ⟨rfl, _⟩ <;> decide) (fun β w' _ hbw => (h30 w' hbw).mono fun e w2 h => rig_mv h) ?_)
            | (refine remE (by omega) (by omega) ?_; rw [hwz])
            | refine Exists.intro (α := Value) (iv at_) ⟨cv8 at_ hat, ?_⟩
            | refine Exists.intro (α := Value) (iv by_) ⟨cv16 by_ hby, ?_⟩
            | (refine remE (by omega) (by omega) ?_; rw [haz])
          all_goals first | (exfalso; omega) | skip
          exact ⟨rfl, Dis.mk [1] (fun i hi => by simp at hi; subst hi; exact ⟨_, rfl, rfl⟩) fun β w1 hb hw => ⟨((some ⟨β 1, 0, none⟩, β 2), (none, 0), (none, 0)), trivial, ⟨⟨_, rfl, rfl⟩, ⟨_, rfl, rfl⟩, trivial⟩, ⟨⟨rfl, _, _, _, rfl, rfl, rfl⟩, ⟨rfl, _, _, _, rfl, rfl, rfl⟩, trivial⟩, fun w2 h2 hb2 => ⟨h2, Rd.of_owns (sz := 1) (f := iF) (fun _ => rfl) rfl rfl (hb2 1 (by simp) _ rfl), .inl ⟨rfl, rfl⟩, .inl ⟨rfl, rfl⟩⟩⟩⟩
        | cons l0 LL =>
          skip
          repeat'
           conv => whnf
           first
            | refine zA ?_ | refine zB ?_ | refine zC ?_ | refine zD ?_ | refine zE ?_ | refine zF ?_ | refine zG ?_ | refine zH ?_ | refine zJ ?_ | refine zI ?_ | refine splT ?_ | refine splF ?_ | refine splNot ?_
            | ((first | refine splIn (fun hc => ?_) (fun hc => ?_) | refine splD (fun hc => ?_) (fun hc => ?_) | refine splE (fun hc => ?_) (fun hc => ?_) | refine splNE (fun hc => ?_) (fun hc => ?_)) <;> first | (exfalso; omega) | (exfalso; dsimp only at hc; omega) | skip)
            | ((with_reducible show CallEv _ _ 27 _ _ _ _ _); refine callE (k := 27) (fun β w' hbw => h27 _ hbw) ?_)
            | ((with_reducible show CallEv _ _ 48 _ _ _ _ _); refine callE (k := 48) (fun β w' hbw => h48 _ hbw) ?_)
            | ((with_reducible show CallEv _ _ 30 _ _ _ _ _); refine callR [1, 2, 3, 4, 5, 6] [] (rigM 1 (p0 :: PP) ([] : List Bm) (l0 :: LL)) (rigS 1 (PP.length + 1) ([] : List Bm) (l0 :: LL) f0 f1 f2) rfl (fun i b hi => by rcases rigM_mem hi with ⟨rfl, _⟩ | ⟨rfl, _⟩ | ⟨rfl, _⟩ <;> decide) (fun β w' _ hbw => (h30 w' hbw).mono fun e w2 h => rig_mv h) ?_)
            | (refine remE (by omega) (by omega) ?_; rw [hwz])
            | refine Exists.intro (α := Value) (iv at_) ⟨cv8 at_ hat, ?_⟩
            | refine Exists.intro (α := Value) (iv by_) ⟨cv16 by_ hby, ?_⟩
            | (refine remE (by omega) (by omega) ?_; rw [haz])
          all_goals first | (exfalso; omega) | skip
          exact ⟨rfl, Dis.mk [1, 5] (fun i hi => by simp at hi; rcases hi with rfl | rfl <;> exact ⟨_, rfl, rfl⟩) fun β w1 hb hw => ⟨((some ⟨β 1, 0, none⟩, β 2), (none, 0), (some ⟨β 5, 0, none⟩, β 6)), trivial, ⟨⟨_, rfl, rfl⟩, ⟨_, rfl, rfl⟩, trivial⟩, ⟨⟨rfl, _, _, _, rfl, rfl, rfl⟩, ⟨rfl, _, _, _, rfl, rfl, rfl⟩, trivial⟩, fun w2 h2 hb2 => ⟨h2, Rd.of_owns (sz := 1) (f := iF) (fun _ => rfl) rfl rfl (hb2 1 (by simp) _ rfl), .inl ⟨rfl, rfl⟩, Rd.of_owns (sz := 5) (f := Ld.cs) (fun _ => rfl) rfl rfl (by exact hb2 5 (by simp) _ rfl)⟩⟩⟩
      | cons b0 BB =>
        cases LL with
        | nil =>
          skip
          repeat'
           conv => whnf
           first
            | refine zA ?_ | refine zB ?_ | refine zC ?_ | refine zD ?_ | refine zE ?_ | refine zF ?_ | refine zG ?_ | refine zH ?_ | refine zJ ?_ | refine zI ?_ | refine splT ?_ | refine splF ?_ | refine splNot ?_
            | ((first | refine splIn (fun hc => ?_) (fun hc => ?_) | refine splD (fun hc => ?_) (fun hc => ?_) | refine splE (fun hc => ?_) (fun hc => ?_) | refine splNE (fun hc => ?_) (fun hc => ?_)) <;> first | (exfalso; omega) | (exfalso; dsimp only at hc; omega) | skip)
            | ((with_reducible show CallEv _ _ 27 _ _ _ _ _); refine callE (k := 27) (fun β w' hbw => h27 _ hbw) ?_)
            | ((with_reducible show CallEv _ _ 48 _ _ _ _ _); refine callE (k := 48) (fun β w' hbw => h48 _ hbw) ?_)
            | ((with_reducible show CallEv _ _ 30 _ _ _ _ _); refine callR [1, 2, 3, 4, 5, 6] [] (rigM 1 (p0 :: PP) (b0 :: BB) ([] : List Ld)) (rigS 1 (PP.length + 1) (b0 :: BB) ([] : List Ld) f0 f1 f2) rfl (fun i b hi => by rcases rigM_mem hi with ⟨rfl, _⟩ | ⟨rfl, _⟩ | ⟨rfl, _⟩ <;> decide) (fun β w' _ hbw => (h30 w' hbw).mono fun e w2 h => rig_mv h) ?_)
            | (refine remE (by omega) (by omega) ?_; rw [hwz])
            | refine Exists.intro (α := Value) (iv at_) ⟨cv8 at_ hat, ?_⟩
            | refine Exists.intro (α := Value) (iv by_) ⟨cv16 by_ hby, ?_⟩
            | (refine remE (by omega) (by omega) ?_; rw [haz])
          all_goals first | (exfalso; omega) | skip
          exact ⟨rfl, Dis.mk [1, 3] (fun i hi => by simp at hi; rcases hi with rfl | rfl <;> exact ⟨_, rfl, rfl⟩) fun β w1 hb hw => ⟨((some ⟨β 1, 0, none⟩, β 2), (some ⟨β 3, 0, none⟩, β 4), (none, 0)), trivial, ⟨⟨_, rfl, rfl⟩, ⟨_, rfl, rfl⟩, trivial⟩, ⟨⟨rfl, _, _, _, rfl, rfl, rfl⟩, ⟨rfl, _, _, _, rfl, rfl, rfl⟩, trivial⟩, fun w2 h2 hb2 => ⟨h2, Rd.of_owns (sz := 1) (f := iF) (fun _ => rfl) rfl rfl (hb2 1 (by simp) _ rfl), Rd.of_owns (sz := 8) (f := Bm.cs) (fun _ => rfl) rfl rfl (by exact hb2 3 (by simp) _ rfl), .inl ⟨rfl, rfl⟩⟩⟩⟩
        | cons l0 LL =>
          skip
          repeat'
           conv => whnf
           first
            | refine zA ?_ | refine zB ?_ | refine zC ?_ | refine zD ?_ | refine zE ?_ | refine zF ?_ | refine zG ?_ | refine zH ?_ | refine zJ ?_ | refine zI ?_ | refine splT ?_ | refine splF ?_ | refine splNot ?_
            | ((first | refine splIn (fun hc => ?_) (fun hc => ?_) | refine splD (fun hc => ?_) (fun hc => ?_) | refine splE (fun hc => ?_) (fun hc => ?_) | refine splNE (fun hc => ?_) (fun hc => ?_)) <;> first | (exfalso; omega) | (exfalso; dsimp only at hc; omega) | skip)
            | ((with_reducible show CallEv _ _ 27 _ _ _ _ _); refine callE (k := 27) (fun β w' hbw => h27 _ hbw) ?_)
            | ((with_reducible show CallEv _ _ 48 _ _ _ _ _); refine callE (k := 48) (fun β w' hbw => h48 _ hbw) ?_)
            | ((with_reducible show CallEv _ _ 30 _ _ _ _ _); refine callR [1, 2, 3, 4, 5, 6] [] (rigM 1 (p0 :: PP) (b0 :: BB) (l0 :: LL)) (rigS 1 (PP.length + 1) (b0 :: BB) (l0 :: LL) f0 f1 f2) rfl (fun i b hi => by rcases rigM_mem hi with ⟨rfl, _⟩ | ⟨rfl, _⟩ | ⟨rfl, _⟩ <;> decide) (fun β w' _ hbw => (h30 w' hbw).mono fun e w2 h => rig_mv h) ?_)
            | (refine remE (by omega) (by omega) ?_; rw [hwz])
            | refine Exists.intro (α := Value) (iv at_) ⟨cv8 at_ hat, ?_⟩
            | refine Exists.intro (α := Value) (iv by_) ⟨cv16 by_ hby, ?_⟩
            | (refine remE (by omega) (by omega) ?_; rw [haz])
          all_goals first | (exfalso; omega) | skip
          exact ⟨rfl, Dis.mk [1, 3, 5] (fun i hi => by simp at hi; rcases hi with rfl | rfl | rfl <;> exact ⟨_, rfl, rfl⟩) fun β w1 hb hw => ⟨((some ⟨β 1, 0, none⟩, β 2), (some ⟨β 3, 0, none⟩, β 4), (some ⟨β 5, 0, none⟩, β 6)), trivial, ⟨⟨_, rfl, rfl⟩, ⟨_, rfl, rfl⟩, trivial⟩, ⟨⟨rfl, _, _, _, rfl, rfl, rfl⟩, ⟨rfl, _, _, _, rfl, rfl, rfl⟩, trivial⟩, fun w2 h2 hb2 => ⟨h2, Rd.of_owns (sz := 1) (f := iF) (fun _ => rfl) rfl rfl (hb2 1 (by simp) _ rfl), Rd.of_owns (sz := 8) (f := Bm.cs) (fun _ => rfl) rfl rfl (by exact hb2 3 (by simp) _ rfl), Rd.of_owns (sz := 5) (f := Ld.cs) (fun _ => rfl) rfl rfl (by exact hb2 5 (by simp) _ rfl)⟩⟩⟩
    · have hi := imin_bd 20000 (f2 + by_)
      obtain ⟨h1, h2⟩ := hF f0 f1 (imin 20000 (f2 + by_)) (by omega) (by omega) (by omega)
      refine VC.cutD env mixed 4 8 (fun y : (Option Addr × Nat) × (Option Addr × Nat) × (Option Addr × Nat) => [(4, .ptr 0 0), (9, .ptr 7 0)]) (fun y => [(0, .cells [.v (.slice po pn pc), .v (.slice bo bn bc), .v (iv f0), .v (iv f1), .v (iv f2), .v (.slice lo ln lc)] 48), (7, .cells [.v (sV (p0 :: PP).length y.1), .v (sV BB.length y.2.1), .v (iv f0), .v (iv f1), .v (iv (imin 20000 (f2 + by_))), .v (sV LL.length y.2.2)] 58)]) (fun y w2 => Below w.heap.size w w2 ∧ nrH (p0 :: PP) BB LL y w2) (fun _ => True) (fun _ _ => ⟨rfl, rfl⟩) ?_ (fun y _ => hfin BB LL _ _ _ h1 rfl h2 y)
      clear hfin hF hL hW h1 h2
      cases BB with
      | nil =>
        cases LL with
        | nil =>
          skip
          repeat'
           conv => whnf
           first
            | refine zA ?_ | refine zB ?_ | refine zC ?_ | refine zD ?_ | refine zE ?_ | refine zF ?_ | refine zG ?_ | refine zH ?_ | refine zJ ?_ | refine zI ?_ | refine splT ?_ | refine splF ?_ | refine splNot ?_
            | ((first | refine splIn (fun hc => ?_) (fun hc => ?_) | refine splD (fun hc => ?_) (fun hc => ?_) | refine splE (fun hc => ?_) (fun hc => ?_) | refine splNE (fun hc => ?_) (fun hc => ?_)) <;> first | (exfalso; omega) | (exfalso; dsimp only at hc; omega) | skip)
            | ((with_reducible show CallEv _ _ 27 _ _ _ _ _); refine callE (k := 27) (fun β w' hbw => h27 _ hbw) ?_)
            | ((with_reducible show CallEv _ _ 48 _ _ _ _ _); refine callE (k := 48) (fun β w' hbw => h48 _ hbw) ?_)
            | ((with_reducible show CallEv _ _ 30 _ _ _ _ _); refine callR [1, 2, 3, 4, 5, 6] [] (rigM 1 (p0 :: PP) ([] : List Bm) ([] : List Ld)) (rigS 1 (PP.length + 1) ([] : List Bm) ([] : List Ld) f0 f1 f2) rfl (fun i b hi => by rcases rigM_mem hi with ⟨rfl, _⟩ | ⟨rfl, _⟩ | ⟨rfl, _⟩ <;> decide) (fun β w' _ hbw => (h30 w' hbw).mono fun e w2 h => rig_mv h) ?_)
            | (refine remE (by omega) (by omega) ?_; rw [hwz])
            | refine Exists.intro (α := Value) (iv at_) ⟨cv8 at_ hat, ?_⟩
            | refine Exists.intro (α := Value) (iv by_) ⟨cv16 by_ hby, ?_⟩
            | (refine remE (by omega) (by omega) ?_; rw [haz])
          all_goals first | (exfalso; omega) | skip
          exact ⟨rfl, Dis.mk [1] (fun i hi => by simp at hi; subst hi; exact ⟨_, rfl, rfl⟩) fun β w1 hb hw => ⟨((some ⟨β 1, 0, none⟩, β 2), (none, 0), (none, 0)), trivial, ⟨⟨_, rfl, rfl⟩, ⟨_, rfl, rfl⟩, trivial⟩, ⟨⟨rfl, _, _, _, rfl, rfl, rfl⟩, ⟨rfl, _, _, _, rfl, rfl, rfl⟩, trivial⟩, fun w2 h2 hb2 => ⟨h2, Rd.of_owns (sz := 1) (f := iF) (fun _ => rfl) rfl rfl (hb2 1 (by simp) _ rfl), .inl ⟨rfl, rfl⟩, .inl ⟨rfl, rfl⟩⟩⟩⟩
        | cons l0 LL =>
          skip
          repeat'
           conv => whnf
           first
            | refine zA ?_ | refine zB ?_ | refine zC ?_ | refine zD ?_ | refine zE ?_ | refine zF ?_ | refine zG ?_ | refine zH ?_ | refine zJ ?_ | refine zI ?_ | refine splT ?_ | refine splF ?_ | refine splNot ?_
            | ((first | refine splIn (fun hc => ?_) (fun hc => ?_) | refine splD (fun hc => ?_) (fun hc => ?_) | refine splE (fun hc => ?_) (fun hc => ?_) | refine splNE (fun hc => ?_) (fun hc => ?_)) <;> first | (exfalso; omega) | (exfalso; dsimp only at hc; omega) | skip)
            | ((with_reducible show CallEv _ _ 27 _ _ _ _ _); refine callE (k := 27) (fun β w' hbw => h27 _ hbw) ?_)
            | ((with_reducible show CallEv _ _ 48 _ _ _ _ _); refine callE (k := 48) (fun β w' hbw => h48 _ hbw) ?_)
            | ((with_reducible show CallEv _ _ 30 _ _ _ _ _); refine callR [1, 2, 3, 4, 5, 6] [] (rigM 1 (p0 :: PP) ([] : List Bm) (l0 :: LL)) (rigS 1 (PP.length + 1) ([] : List Bm) (l0 :: LL) f0 f1 f2) rfl (fun i b hi => by rcases rigM_mem hi with ⟨rfl, _⟩ | ⟨rfl, _⟩ | ⟨rfl, _⟩ <;> decide) (fun β w' _ hbw => (h30 w' hbw).mono fun e w2 h => rig_mv h) ?_)
            | (refine remE (by omega) (by omega) ?_; rw [hwz])
            | refine Exists.intro (α := Value) (iv at_) ⟨cv8 at_ hat, ?_⟩
            | refine Exists.intro (α := Value) (iv by_) ⟨cv16 by_ hby, ?_⟩
            | (refine remE (by omega) (by omega) ?_; rw [haz])
          all_goals first | (exfalso; omega) | skip
          exact ⟨rfl, Dis.mk [1, 5] (fun i hi => by simp at hi; rcases hi with rfl | rfl <;> exact ⟨_, rfl, rfl⟩) fun β w1 hb hw => ⟨((some ⟨β 1, 0, none⟩, β 2), (none, 0), (some ⟨β 5, 0, none⟩, β 6)), trivial, ⟨⟨_, rfl, rfl⟩, ⟨_, rfl, rfl⟩, trivial⟩, ⟨⟨rfl, _, _, _, rfl, rfl, rfl⟩, ⟨rfl, _, _, _, rfl, rfl, rfl⟩, trivial⟩, fun w2 h2 hb2 => ⟨h2, Rd.of_owns (sz := 1) (f := iF) (fun _ => rfl) rfl rfl (hb2 1 (by simp) _ rfl), .inl ⟨rfl, rfl⟩, Rd.of_owns (sz := 5) (f := Ld.cs) (fun _ => rfl) rfl rfl (by exact hb2 5 (by simp) _ rfl)⟩⟩⟩
      | cons b0 BB =>
        cases LL with
        | nil =>
          skip
          repeat'
           conv => whnf
           first
            | refine zA ?_ | refine zB ?_ | refine zC ?_ | refine zD ?_ | refine zE ?_ | refine zF ?_ | refine zG ?_ | refine zH ?_ | refine zJ ?_ | refine zI ?_ | refine splT ?_ | refine splF ?_ | refine splNot ?_
            | ((first | refine splIn (fun hc => ?_) (fun hc => ?_) | refine splD (fun hc => ?_) (fun hc => ?_) | refine splE (fun hc => ?_) (fun hc => ?_) | refine splNE (fun hc => ?_) (fun hc => ?_)) <;> first | (exfalso; omega) | (exfalso; dsimp only at hc; omega) | skip)
            | ((with_reducible show CallEv _ _ 27 _ _ _ _ _); refine callE (k := 27) (fun β w' hbw => h27 _ hbw) ?_)
            | ((with_reducible show CallEv _ _ 48 _ _ _ _ _); refine callE (k := 48) (fun β w' hbw => h48 _ hbw) ?_)
            | ((with_reducible show CallEv _ _ 30 _ _ _ _ _); refine callR [1, 2, 3, 4, 5, 6] [] (rigM 1 (p0 :: PP) (b0 :: BB) ([] : List Ld)) (rigS 1 (PP.length + 1) (b0 :: BB) ([] : List Ld) f0 f1 f2) rfl (fun i b hi => by rcases rigM_mem hi with ⟨rfl, _⟩ | ⟨rfl, _⟩ | ⟨rfl, _⟩ <;> decide) (fun β w' _ hbw => (h30 w' hbw).mono fun e w2 h => rig_mv h) ?_)
            | (refine remE (by omega) (by omega) ?_; rw [hwz])
            | refine Exists.intro (α := Value) (iv at_) ⟨cv8 at_ hat, ?_⟩
            | refine Exists.intro (α := Value) (iv by_) ⟨cv16 by_ hby, ?_⟩
            | (refine remE (by omega) (by omega) ?_; rw [haz])
          all_goals first | (exfalso; omega) | skip
          exact ⟨rfl, Dis.mk [1, 3] (fun i hi => by simp at hi; rcases hi with rfl | rfl <;> exact ⟨_, rfl, rfl⟩) fun β w1 hb hw => ⟨((some ⟨β 1, 0, none⟩, β 2), (some ⟨β 3, 0, none⟩, β 4), (none, 0)), trivial, ⟨⟨_, rfl, rfl⟩, ⟨_, rfl, rfl⟩, trivial⟩, ⟨⟨rfl, _, _, _, rfl, rfl, rfl⟩, ⟨rfl, _, _, _, rfl, rfl, rfl⟩, trivial⟩, fun w2 h2 hb2 => ⟨h2, Rd.of_owns (sz := 1) (f := iF) (fun _ => rfl) rfl rfl (hb2 1 (by simp) _ rfl), Rd.of_owns (sz := 8) (f := Bm.cs) (fun _ => rfl) rfl rfl (by exact hb2 3 (by simp) _ rfl), .inl ⟨rfl, rfl⟩⟩⟩⟩
        | cons l0 LL =>
          skip
          repeat'
           conv => whnf
           first
            | refine zA ?_ | refine zB ?_ | refine zC ?_ | refine zD ?_ | refine zE ?_ | refine zF ?_ | refine zG ?_ | refine zH ?_ | refine zJ ?_ | refine zI ?_ | refine splT ?_ | refine splF ?_ | refine splNot ?_
            | ((first | refine splIn (fun hc => ?_) (fun hc => ?_) | refine splD (fun hc => ?_) (fun hc => ?_) | refine splE (fun hc => ?_) (fun hc => ?_) | refine splNE (fun hc => ?_) (fun hc => ?_)) <;> first | (exfalso; omega) | (exfalso; dsimp only at hc; omega) | skip)
            | ((with_reducible show CallEv _ _ 27 _ _ _ _ _); refine callE (k := 27) (fun β w' hbw => h27 _ hbw) ?_)
            | ((with_reducible show CallEv _ _ 48 _ _ _ _ _); refine callE (k := 48) (fun β w' hbw => h48 _ hbw) ?_)
            | ((with_reducible show CallEv _ _ 30 _ _ _ _ _); refine callR [1, 2, 3, 4, 5, 6] [] (rigM 1 (p0 :: PP) (b0 :: BB) (l0 :: LL)) (rigS 1 (PP.length + 1) (b0 :: BB) (l0 :: LL) f0 f1 f2) rfl (fun i b hi => by rcases rigM_mem hi with ⟨rfl, _⟩ | ⟨rfl, _⟩ | ⟨rfl, _⟩ <;> decide) (fun β w' _ hbw => (h30 w' hbw).mono fun e w2 h => rig_mv h) ?_)
            | (refine remE (by omega) (by omega) ?_; rw [hwz])
            | refine Exists.intro (α := Value) (iv at_) ⟨cv8 at_ hat, ?_⟩
            | refine Exists.intro (α := Value) (iv by_) ⟨cv16 by_ hby, ?_⟩
            | (refine remE (by omega) (by omega) ?_; rw [haz])
          all_goals first | (exfalso; omega) | skip
          exact ⟨rfl, Dis.mk [1, 3, 5] (fun i hi => by simp at hi; rcases hi with rfl | rfl | rfl <;> exact ⟨_, rfl, rfl⟩) fun β w1 hb hw => ⟨((some ⟨β 1, 0, none⟩, β 2), (some ⟨β 3, 0, none⟩, β 4), (some ⟨β 5, 0, none⟩, β 6)), trivial, ⟨⟨_, rfl, rfl⟩, ⟨_, rfl, rfl⟩, trivial⟩, ⟨⟨rfl, _, _, _, rfl, rfl, rfl⟩, ⟨rfl, _, _, _, rfl, rfl, rfl⟩, trivial⟩, fun w2 h2 hb2 => ⟨h2, Rd.of_owns (sz := 1) (f := iF) (fun _ => rfl) rfl rfl (hb2 1 (by simp) _ rfl), Rd.of_owns (sz := 8) (f := Bm.cs) (fun _ => rfl) rfl rfl (by exact hb2 3 (by simp) _ rfl), Rd.of_owns (sz := 5) (f := Ld.cs) (fun _ => rfl) rfl rfl (by exact hb2 5 (by simp) _ rfl)⟩⟩⟩
  · cases LL with
    | nil =>
      have h2 := hF f0 f1 f2 (by omega) (by omega) (by omega)
      refine VC.cutD env mixed 4 8 (fun y : (Option Addr × Nat) × (Option Addr × Nat) × (Option Addr × Nat) => [(4, .ptr 0 0), (9, .ptr 7 0)]) (fun y => [(0, .cells [.v (.slice po pn pc), .v (.slice bo bn bc), .v (iv f0), .v (iv f1), .v (iv f2), .v (.slice lo ln lc)] 48), (7, .cells [.v (sV (p0 :: PP).length y.1), .v (sV BB.length y.2.1), .v (iv f0), .v (iv f1), .v (iv f2), .v (sV ([] : List Ld).length y.2.2)] 58)]) (fun y w2 => Below w.heap.size w w2 ∧ nrH (p0 :: PP) BB ([] : List Ld) y w2) (fun _ => True) (fun _ _ => ⟨rfl, rfl⟩) ?_ (fun y _ => hfin BB [] _ _ _ hr rfl (fun b a hq => Int.le_refl _) y)
      clear hfin hF hL hW h2
      cases BB with
      | nil =>
        skip
        repeat'
         conv => whnf
         first
          | refine zA ?_ | refine zB ?_ | refine zC ?_ | refine zD ?_ | refine zE ?_ | refine zF ?_ | refine zG ?_ | refine zH ?_ | refine zJ ?_ | refine zI ?_ | refine splT ?_ | refine splF ?_ | refine splNot ?_
          | ((first | refine splIn (fun hc => ?_) (fun hc => ?_) | refine splD (fun hc => ?_) (fun hc => ?_) | refine splE (fun hc => ?_) (fun hc => ?_) | refine splNE (fun hc => ?_) (fun hc => ?_)) <;> first | (exfalso; omega) | (exfalso; dsimp only at hc; omega) | skip)
          | ((with_reducible show CallEv _ _ 27 _ _ _ _ _); refine callE (k := 27) (fun β w' hbw => h27 _ hbw) ?_)
          | ((with_reducible show CallEv _ _ 48 _ _ _ _ _); refine callE (k := 48) (fun β w' hbw => h48 _ hbw) ?_)
          | ((with_reducible show CallEv _ _ 30 _ _ _ _ _); refine callR [1, 2, 3, 4, 5, 6] [] (rigM 1 (p0 :: PP) ([] : List Bm) ([] : List Ld)) (rigS 1 (PP.length + 1) ([] : List Bm) ([] : List Ld) f0 f1 f2) rfl (fun i b hi => by rcases rigM_mem hi with ⟨rfl, _⟩ | ⟨rfl, _⟩ | ⟨rfl, _⟩ <;> decide) (fun β w' _ hbw => (h30 w' hbw).mono fun e w2 h => rig_mv h) ?_)
          | (refine remE (by omega) (by omega) ?_; rw [hwz])
        all_goals first | (exfalso; omega) | skip
        exact ⟨rfl, Dis.mk [1] (fun i hi => by simp at hi; subst hi; exact ⟨_, rfl, rfl⟩) fun β w1 hb hw => ⟨((some ⟨β 1, 0, none⟩, β 2), (none, 0), (none, 0)), trivial, ⟨⟨_, rfl, rfl⟩, ⟨_, rfl, rfl⟩, trivial⟩, ⟨⟨rfl, _, _, _, rfl, rfl, rfl⟩, ⟨rfl, _, _, _, rfl, rfl, rfl⟩, trivial⟩, fun w2 h2 hb2 => ⟨h2, Rd.of_owns (sz := 1) (f := iF) (fun _ => rfl) rfl rfl (hb2 1 (by simp) _ rfl), .inl ⟨rfl, rfl⟩, .inl ⟨rfl, rfl⟩⟩⟩⟩
      | cons b0 BB =>
        skip
        repeat'
         conv => whnf
         first
          | refine zA ?_ | refine zB ?_ | refine zC ?_ | refine zD ?_ | refine zE ?_ | refine zF ?_ | refine zG ?_ | refine zH ?_ | refine zJ ?_ | refine zI ?_ | refine splT ?_ | refine splF ?_ | refine splNot ?_
          | ((first | refine splIn (fun hc => ?_) (fun hc => ?_) | refine splD (fun hc => ?_) (fun hc => ?_) | refine splE (fun hc => ?_) (fun hc => ?_) | refine splNE (fun hc => ?_) (fun hc => ?_)) <;> first | (exfalso; omega) | (exfalso; dsimp only at hc; omega) | skip)
          | ((with_reducible show CallEv _ _ 27 _ _ _ _ _); refine callE (k := 27) (fun β w' hbw => h27 _ hbw) ?_)
          | ((with_reducible show CallEv _ _ 48 _ _ _ _ _); refine callE (k := 48) (fun β w' hbw => h48 _ hbw) ?_)
          | ((with_reducible show CallEv _ _ 30 _ _ _ _ _); refine callR [1, 2, 3, 4, 5, 6] [] (rigM 1 (p0 :: PP) (b0 :: BB) ([] : List Ld)) (rigS 1 (PP.length + 1) (b0 :: BB) ([] : List Ld) f0 f1 f2) rfl (fun i b hi => by rcases rigM_mem hi with ⟨rfl, _⟩ | ⟨rfl, _⟩ | ⟨rfl, _⟩ <;> decide) (fun β w' _ hbw => (h30 w' hbw).mono fun e w2 h => rig_mv h) ?_)
          | (refine remE (by omega) (by omega) ?_; rw [hwz])
        all_goals first | (exfalso; omega) | skip
        exact ⟨rfl, Dis.mk [1, 3] (fun i hi => by simp at hi; rcases hi with rfl | rfl <;> exact ⟨_, rfl, rfl⟩) fun β w1 hb hw => ⟨((some ⟨β 1, 0, none⟩, β 2), (some ⟨β 3, 0, none⟩, β 4), (none, 0)), trivial, ⟨⟨_, rfl, rfl⟩, ⟨_, rfl, rfl⟩, trivial⟩, ⟨⟨rfl, _, _, _, rfl, rfl, rfl⟩, ⟨rfl, _, _, _, rfl, rfl, rfl⟩, trivial⟩, fun w2 h2 hb2 => ⟨h2, Rd.of_owns (sz := 1) (f := iF) (fun _ => rfl) rfl rfl (hb2 1 (by simp) _ rfl), Rd.of_owns (sz := 8) (f := Bm.cs) (fun _ => rfl) rfl rfl (by exact hb2 3 (by simp) _ rfl), .inl ⟨rfl, rfl⟩⟩⟩⟩
    | cons l0 LL =>
      obtain ⟨kk, hkk⟩ : ∃ kk : Nat, at_ % (((l0 :: LL).length : Nat) : Int) = kk := ⟨(at_ % (((l0 :: LL).length : Nat) : Int)).toNat, by have := Int.emod_nonneg at_ (b := (((l0 :: LL).length : Nat) : Int)) (by simp only [List.length_cons]; omega); omega⟩
      have hkl : kk < (l0 :: LL).length := by have := Int.emod_lt_of_pos at_ (b := (((l0 :: LL).length : Nat) : Int)) (by simp only [List.length_cons]; omega); omega
      obtain ⟨l, hl⟩ : ∃ l, (l0 :: LL)[kk]? = some l := ⟨_, List.getElem?_eq_getElem hkl⟩
      have hlk := hlb kk l hl
      have hi := imin_bd 1000000 (l.hi + by_)
      obtain ⟨h1, h2⟩ := hL kk l hl (imin 1000000 (l.hi + by_)) (by omega)
      have hu := up_hi hl (imin 1000000 (l.hi + by_))
      have hul := up_hl hkl (imin 1000000 (l.hi + by_))
      have hah := at_hi hl
      refine VC.cutD env mixed 4 8 (fun y : (Option Addr × Nat) × (Option Addr × Nat) × (Option Addr × Nat) => [(4, .ptr 0 0), (9, .ptr 7 0)]) (fun y => [(0, .cells [.v (.slice po pn pc), .v (.slice bo bn bc), .v (iv f0), .v (iv f1), .v (iv f2), .v (.slice lo ln lc)] 48), (7, .cells [.v (sV (p0 :: PP).length y.1), .v (sV BB.length y.2.1), .v (iv f0), .v (iv f1), .v (iv f2), .v (sV ((l0 :: LL).set kk (hiE l (imin 1000000 (l.hi + by_)))).length y.2.2)] 58)]) (fun y w2 => Below w.heap.size w w2 ∧ nrH (p0 :: PP) BB ((l0 :: LL).set kk (hiE l (imin 1000000 (l.hi + by_)))) y w2) (fun _ => True) (fun _ _ => ⟨rfl, rfl⟩) ?_ (fun y _ => hfin BB ((l0 :: LL).set kk (hiE l (imin 1000000 (l.hi + by_)))) f0 f1 f2 h1 rfl h2 y)
      clear hfin hF hL hW h1 h2
      have hlq : (0 ≤ l.hi ∧ l.hi ≤ 1000000) := hlk.2.2.2.1
      obtain ⟨lh, hlh⟩ : ∃ x, l.hi = x := ⟨_, rfl⟩
      obtain ⟨LS, hLS⟩ : ∃ LS, (l0 :: LL).set kk (hiE l (imin 1000000 (l.hi + by_))) = LS := ⟨_, rfl⟩
      have hSl : LS.length = LL.length + 1 := by rw [← hLS, List.length_set]; rfl
      simp only [List.length_cons] at hkl hl20 hkk
      rw [hLS] at hu ⊢
      rw [hlh] at hu hul hah hlq
      clear hlk hlb hbb hi hLS
      cases BB with
      | nil =>
        skip
        repeat'
         conv => whnf
         first
          | refine zA ?_ | refine zB ?_ | refine zC ?_ | refine zD ?_ | refine zE ?_ | refine zF ?_ | refine zG ?_ | refine zH ?_ | refine zJ ?_ | refine zI ?_ | refine splT ?_ | refine splF ?_ | refine splNot ?_
          | ((first | refine splIn (fun hc => ?_) (fun hc => ?_) | refine splD (fun hc => ?_) (fun hc => ?_) | refine splE (fun hc => ?_) (fun hc => ?_) | refine splNE (fun hc => ?_) (fun hc => ?_)) <;> first | (exfalso; omega) | (exfalso; dsimp only at hc; omega) | skip)
          | ((with_reducible show CallEv _ _ 27 _ _ _ _ _); refine callE (k := 27) (fun β w' hbw => h27 _ hbw) ?_)
          | ((with_reducible show CallEv _ _ 48 _ _ _ _ _); refine callE (k := 48) (fun β w' hbw => h48 _ hbw) ?_)
          | ((with_reducible show CallEv _ _ 30 _ _ _ _ _); refine callR [1, 2, 3, 4, 5, 6] [] (rigM 1 (p0 :: PP) ([] : List Bm) (l0 :: LL)) (rigS 1 (PP.length + 1) ([] : List Bm) (l0 :: LL) f0 f1 f2) rfl (fun i b hi => by rcases rigM_mem hi with ⟨rfl, _⟩ | ⟨rfl, _⟩ | ⟨rfl, _⟩ <;> decide) (fun β w' _ hbw => (h30 w' hbw).mono fun e w2 h => rig_mv h) ?_)
          | (refine remE (by omega) (by omega) ?_; rw [hwz])
          | refine Exists.intro (α := Value) (iv at_) ⟨cv8 at_ hat, ?_⟩
          | refine Exists.intro (α := Value) (iv by_) ⟨cv16 by_ hby, ?_⟩
          | (refine remE (by omega) (by omega) ?_; rw [hkk])
          | refine Exists.intro (α := List Value) [iv lh] ⟨⟨rfl, hah⟩, ?_⟩
          | (refine And.intro (a := _ + _ ≤ List.length _) hul ?_; rw [hu])
        all_goals first | (exfalso; omega) | skip
        exact ⟨rfl, Dis.mk [1, 5] (fun i hi => by simp at hi; rcases hi with rfl | rfl <;> exact ⟨_, rfl, rfl⟩) fun β w1 hb hw => ⟨((some ⟨β 1, 0, none⟩, β 2), (none, 0), (some ⟨β 5, 0, none⟩, β 6)), trivial, ⟨⟨_, rfl, rfl⟩, ⟨_, rfl, rfl⟩, trivial⟩, ⟨⟨rfl, _, _, _, rfl, rfl, rfl⟩, ⟨rfl, _, _, _, rfl, rfl, by rw [hSl]; rfl⟩, trivial⟩, fun w2 h2 hb2 => ⟨h2, Rd.of_owns (sz := 1) (f := iF) (fun _ => rfl) rfl rfl (hb2 1 (by simp) _ rfl), .inl ⟨rfl, rfl⟩, Rd.of_owns (sz := 5) (f := Ld.cs) (fun _ => rfl) rfl rfl (by rw [hSl]; exact hb2 5 (by simp) _ rfl)⟩⟩⟩
      | cons b0 BB =>
        skip
        repeat'
         conv => whnf
         first
          | refine zA ?_ | refine zB ?_ | refine zC ?_ | refine zD ?_ | refine zE ?_ | refine zF ?_ | refine zG ?_ | refine zH ?_ | refine zJ ?_ | refine zI ?_ | refine splT ?_ | refine splF ?_ | refine splNot ?_
          | ((first | refine splIn (fun hc => ?_) (fun hc => ?_) | refine splD (fun hc => ?_) (fun hc => ?_) | refine splE (fun hc => ?_) (fun hc => ?_) | refine splNE (fun hc => ?_) (fun hc => ?_)) <;> first | (exfalso; omega) | (exfalso; dsimp only at hc; omega) | skip)
          | ((with_reducible show CallEv _ _ 27 _ _ _ _ _); refine callE (k := 27) (fun β w' hbw => h27 _ hbw) ?_)
          | ((with_reducible show CallEv _ _ 48 _ _ _ _ _); refine callE (k := 48) (fun β w' hbw => h48 _ hbw) ?_)
          | ((with_reducible show CallEv _ _ 30 _ _ _ _ _); refine callR [1, 2, 3, 4, 5, 6] [] (rigM 1 (p0 :: PP) (b0 :: BB) (l0 :: LL)) (rigS 1 (PP.length + 1) (b0 :: BB) (l0 :: LL) f0 f1 f2) rfl (fun i b hi => by rcases rigM_mem hi with ⟨rfl, _⟩ | ⟨rfl, _⟩ | ⟨rfl, _⟩ <;> decide) (fun β w' _ hbw => (h30 w' hbw).mono fun e w2 h => rig_mv h) ?_)
          | (refine remE (by omega) (by omega) ?_; rw [hwz])
          | refine Exists.intro (α := Value) (iv at_) ⟨cv8 at_ hat, ?_⟩
          | refine Exists.intro (α := Value) (iv by_) ⟨cv16 by_ hby, ?_⟩
          | (refine remE (by omega) (by omega) ?_; rw [hkk])
          | refine Exists.intro (α := List Value) [iv lh] ⟨⟨rfl, hah⟩, ?_⟩
          | (refine And.intro (a := _ + _ ≤ List.length _) hul ?_; rw [hu])
        all_goals first | (exfalso; omega) | skip
        exact ⟨rfl, Dis.mk [1, 3, 5] (fun i hi => by simp at hi; rcases hi with rfl | rfl | rfl <;> exact ⟨_, rfl, rfl⟩) fun β w1 hb hw => ⟨((some ⟨β 1, 0, none⟩, β 2), (some ⟨β 3, 0, none⟩, β 4), (some ⟨β 5, 0, none⟩, β 6)), trivial, ⟨⟨_, rfl, rfl⟩, ⟨_, rfl, rfl⟩, trivial⟩, ⟨⟨rfl, _, _, _, rfl, rfl, rfl⟩, ⟨rfl, _, _, _, rfl, rfl, by rw [hSl]; rfl⟩, trivial⟩, fun w2 h2 hb2 => ⟨h2, Rd.of_owns (sz := 1) (f := iF) (fun _ => rfl) rfl rfl (hb2 1 (by simp) _ rfl), Rd.of_owns (sz := 8) (f := Bm.cs) (fun _ => rfl) rfl rfl (by exact hb2 3 (by simp) _ rfl), Rd.of_owns (sz := 5) (f := Ld.cs) (fun _ => rfl) rfl rfl (by rw [hSl]; exact hb2 5 (by simp) _ rfl)⟩⟩⟩
  · cases BB with
    | nil =>
      refine VC.cutD env mixed 4 8 (fun y : (Option Addr × Nat) × (Option Addr × Nat) × (Option Addr × Nat) => [(4, .ptr 0 0), (9, .ptr 7 0)]) (fun y => [(0, .cells [.v (.slice po pn pc), .v (.slice bo bn bc), .v (iv f0), .v (iv f1), .v (iv f2), .v (.slice lo ln lc)] 48), (7, .cells [.v (sV (p0 :: PP).length y.1), .v (sV ([] : List Bm).length y.2.1), .v (iv f0), .v (iv f1), .v (iv f2), .v (sV LL.length y.2.2)] 58)]) (fun y w2 => Below w.heap.size w w2 ∧ nrH (p0 :: PP) ([] : List Bm) LL y w2) (fun _ => True) (fun _ _ => ⟨rfl, rfl⟩) ?_ (fun y _ => hfin [] LL _ _ _ hr rfl (fun b a hq => Int.le_refl _) y)
      clear hfin hF hL hW
      cases LL with
      | nil =>
        skip
        repeat'
         conv => whnf
         first
          | refine zA ?_ | refine zB ?_ | refine zC ?_ | refine zD ?_ | refine zE ?_ | refine zF ?_ | refine zG ?_ | refine zH ?_ | refine zJ ?_ | refine zI ?_ | refine splT ?_ | refine splF ?_ | refine splNot ?_
          | ((first | refine splIn (fun hc => ?_) (fun hc => ?_) | refine splD (fun hc => ?_) (fun hc => ?_) | refine splE (fun hc => ?_) (fun hc => ?_) | refine splNE (fun hc => ?_) (fun hc => ?_)) <;> first | (exfalso; omega) | (exfalso; dsimp only at hc; omega) | skip)
          | ((with_reducible show CallEv _ _ 27 _ _ _ _ _); refine callE (k := 27) (fun β w' hbw => h27 _ hbw) ?_)
          | ((with_reducible show CallEv _ _ 48 _ _ _ _ _); refine callE (k := 48) (fun β w' hbw => h48 _ hbw) ?_)
          | ((with_reducible show CallEv _ _ 30 _ _ _ _ _); refine callR [1, 2, 3, 4, 5, 6] [] (rigM 1 (p0 :: PP) ([] : List Bm) ([] : List Ld)) (rigS 1 (PP.length + 1) ([] : List Bm) ([] : List Ld) f0 f1 f2) rfl (fun i b hi => by rcases rigM_mem hi with ⟨rfl, _⟩ | ⟨rfl, _⟩ | ⟨rfl, _⟩ <;> decide) (fun β w' _ hbw => (h30 w' hbw).mono fun e w2 h => rig_mv h) ?_)
          | (refine remE (by omega) (by omega) ?_; rw [hwz])
        all_goals first | (exfalso; omega) | skip
        exact ⟨rfl, Dis.mk [1] (fun i hi => by simp at hi; subst hi; exact ⟨_, rfl, rfl⟩) fun β w1 hb hw => ⟨((some ⟨β 1, 0, none⟩, β 2), (none, 0), (none, 0)), trivial, ⟨⟨_, rfl, rfl⟩, ⟨_, rfl, rfl⟩, trivial⟩, ⟨⟨rfl, _, _, _, rfl, rfl, rfl⟩, ⟨rfl, _, _, _, rfl, rfl, rfl⟩, trivial⟩, fun w2 h2 hb2 => ⟨h2, Rd.of_owns (sz := 1) (f := iF) (fun _ => rfl) rfl rfl (hb2 1 (by simp) _ rfl), .inl ⟨rfl, rfl⟩, .inl ⟨rfl, rfl⟩⟩⟩⟩
      | cons l0 LL =>
        skip
        repeat'
         conv => whnf
         first
          | refine zA ?_ | refine zB ?_ | refine zC ?_ | refine zD ?_ | refine zE ?_ | refine zF ?_ | refine zG ?_ | refine zH ?_ | refine zJ ?_ | refine zI ?_ | refine splT ?_ | refine splF ?_ | refine splNot ?_
          | ((first | refine splIn (fun hc => ?_) (fun hc => ?_) | refine splD (fun hc => ?_) (fun hc => ?_) | refine splE (fun hc => ?_) (fun hc => ?_) | refine splNE (fun hc => ?_) (fun hc => ?_)) <;> first | (exfalso; omega) | (exfalso; dsimp only at hc; omega) | skip)
          | ((with_reducible show CallEv _ _ 27 _ _ _ _ _); refine callE (k := 27) (fun β w' hbw => h27 _ hbw) ?_)
          | ((with_reducible show CallEv _ _ 48 _ _ _ _ _); refine callE (k := 48) (fun β w' hbw => h48 _ hbw) ?_)
          | ((with_reducible show CallEv _ _ 30 _ _ _ _ _); refine callR [1, 2, 3, 4, 5, 6] [] (rigM 1 (p0 :: PP) ([] : List Bm) (l0 :: LL)) (rigS 1 (PP.length + 1) ([] : List Bm) (l0 :: LL) f0 f1 f2) rfl (fun i b hi => by rcases rigM_mem hi with ⟨rfl, _⟩ | ⟨rfl, _⟩ | ⟨rfl, _⟩ <;> decide) (fun β w' _ hbw => (h30 w' hbw).mono fun e w2 h => rig_mv h) ?_)
          | (refine remE (by omega) (by omega) ?_; rw [hwz])
        all_goals first | (exfalso; omega) | skip
        exact ⟨rfl, Dis.mk [1, 5] (fun i hi => by simp at hi; rcases hi with rfl | rfl <;> exact ⟨_, rfl, rfl⟩) fun β w1 hb hw => ⟨((some ⟨β 1, 0, none⟩, β 2), (none, 0), (some ⟨β 5, 0, none⟩, β 6)), trivial, ⟨⟨_, rfl, rfl⟩, ⟨_, rfl, rfl⟩, trivial⟩, ⟨⟨rfl, _, _, _, rfl, rfl, rfl⟩, ⟨rfl, _, _, _, rfl, rfl, rfl⟩, trivial⟩, fun w2 h2 hb2 => ⟨h2, Rd.of_owns (sz := 1) (f := iF) (fun _ => rfl) rfl rfl (hb2 1 (by simp) _ rfl), .inl ⟨rfl, rfl⟩, Rd.of_owns (sz := 5) (f := Ld.cs) (fun _ => rfl) rfl rfl (by exact hb2 5 (by simp) _ rfl)⟩⟩⟩
    | cons b0 BB =>
      obtain ⟨kk, hkk⟩ : ∃ kk : Nat, at_ % (((b0 :: BB).length : Nat) : Int) = kk := ⟨(at_ % (((b0 :: BB).length : Nat) : Int)).toNat, by have := Int.emod_nonneg at_ (b := (((b0 :: BB).length : Nat) : Int)) (by simp only [List.length_cons]; omega); omega⟩
      have hkl : kk < (b0 :: BB).length := by have := Int.emod_lt_of_pos at_ (b := (((b0 :: BB).length : Nat) : Int)) (by simp only [List.length_cons]; omega); omega
      obtain ⟨m, hm⟩ : ∃ m, (b0 :: BB)[kk]? = some m := ⟨_, List.getElem?_eq_getElem hkl⟩
      have hmq := hbb kk m hm
      have hi := imin_bd 1000000 (m.wt + by_)
      obtain ⟨h1, h2⟩ := hW kk m hm (imin 1000000 (m.wt + by_)) (by omega)
      have hu := up_wt hm (imin 1000000 (m.wt + by_))
      have hul := up_wl hkl (imin 1000000 (m.wt + by_))
      have hah := at_wt hm
      refine VC.cutD env mixed 4 8 (fun y : (Option Addr × Nat) × (Option Addr × Nat) × (Option Addr × Nat) => [(4, .ptr 0 0), (9, .ptr 7 0)]) (fun y => [(0, .cells [.v (.slice po pn pc), .v (.slice bo bn bc), .v (iv f0), .v (iv f1), .v (iv f2), .v (.slice lo ln lc)] 48), (7, .cells [.v (sV (p0 :: PP).length y.1), .v (sV ((b0 :: BB).set kk (wtE m (imin 1000000 (m.wt + by_)))).length y.2.1), .v (iv f0), .v (iv f1), .v (iv f2), .v (sV LL.length y.2.2)] 58)]) (fun y w2 => Below w.heap.size w w2 ∧ nrH (p0 :: PP) ((b0 :: BB).set kk (wtE m (imin 1000000 (m.wt + by_)))) LL y w2) (fun _ => True) (fun _ _ => ⟨rfl, rfl⟩) ?_ (fun y _ => hfin ((b0 :: BB).set kk (wtE m (imin 1000000 (m.wt + by_)))) LL f0 f1 f2 h1 (by rw [List.length_set]) h2 y)
      clear hfin hF hL hW h1 h2
      obtain ⟨mw, hmw⟩ : ∃ x, m.wt = x := ⟨_, rfl⟩
      obtain ⟨BS, hBS⟩ : ∃ BS, (b0 :: BB).set kk (wtE m (imin 1000000 (m.wt + by_))) = BS := ⟨_, rfl⟩
      have hSl : BS.length = BB.length + 1 := by rw [← hBS, List.length_set]; rfl
      simp only [List.length_cons] at hkl hm12 hkk
      rw [hBS] at hu ⊢
      rw [hmw] at hu hul hah hmq
      clear hlb hbb hi hBS
      cases LL with
      | nil =>
        skip
        repeat'
         conv => whnf
         first
          | refine zA ?_ | refine zB ?_ | refine zC ?_ | refine zD ?_ | refine zE ?_ | refine zF ?_ | refine zG ?_ | refine zH ?_ | refine zJ ?_ | refine zI ?_ | refine splT ?_ | refine splF ?_ | refine splNot ?_
          | ((first | refine splIn (fun hc => ?_) (fun hc => ?_) | refine splD (fun hc => ?_) (fun hc => ?_) | refine splE (fun hc => ?_) (fun hc => ?_) | refine splNE (fun hc => ?_) (fun hc => ?_)) <;> first | (exfalso; omega) | (exfalso; dsimp only at hc; omega) | skip)
          | ((with_reducible show CallEv _ _ 27 _ _ _ _ _); refine callE (k := 27) (fun β w' hbw => h27 _ hbw) ?_)
          | ((with_reducible show CallEv _ _ 48 _ _ _ _ _); refine callE (k := 48) (fun β w' hbw => h48 _ hbw) ?_)
          | ((with_reducible show CallEv _ _ 30 _ _ _ _ _); refine callR [1, 2, 3, 4, 5, 6] [] (rigM 1 (p0 :: PP) (b0 :: BB) ([] : List Ld)) (rigS 1 (PP.length + 1) (b0 :: BB) ([] : List Ld) f0 f1 f2) rfl (fun i b hi => by rcases rigM_mem hi with ⟨rfl, _⟩ | ⟨rfl, _⟩ | ⟨rfl, _⟩ <;> decide) (fun β w' _ hbw => (h30 w' hbw).mono fun e w2 h => rig_mv h) ?_)
          | (refine remE (by omega) (by omega) ?_; rw [hwz])
          | refine Exists.intro (α := Value) (iv at_) ⟨cv8 at_ hat, ?_⟩
          | refine Exists.intro (α := Value) (iv by_) ⟨cv16 by_ hby, ?_⟩
          | (refine remE (by omega) (by omega) ?_; rw [hkk])
          | refine Exists.intro (α := List Value) [iv mw] ⟨⟨rfl, hah⟩, ?_⟩
          | (refine And.intro (a := _ + _ ≤ List.length _) hul ?_; rw [hu])
        all_goals first | (exfalso; omega) | skip
        exact ⟨rfl, Dis.mk [1, 3] (fun i hi => by simp at hi; rcases hi with rfl | rfl <;> exact ⟨_, rfl, rfl⟩) fun β w1 hb hw => ⟨((some ⟨β 1, 0, none⟩, β 2), (some ⟨β 3, 0, none⟩, β 4), (none, 0)), trivial, ⟨⟨_, rfl, rfl⟩, ⟨_, rfl, rfl⟩, trivial⟩, ⟨⟨rfl, _, _, _, rfl, rfl, rfl⟩, ⟨rfl, _, _, _, rfl, rfl, by rw [hSl]; rfl⟩, trivial⟩, fun w2 h2 hb2 => ⟨h2, Rd.of_owns (sz := 1) (f := iF) (fun _ => rfl) rfl rfl (hb2 1 (by simp) _ rfl), Rd.of_owns (sz := 8) (f := Bm.cs) (fun _ => rfl) rfl rfl (by rw [hSl]; exact hb2 3 (by simp) _ rfl), .inl ⟨rfl, rfl⟩⟩⟩⟩
      | cons l0 LL =>
        skip
        repeat'
         conv => whnf
         first
          | refine zA ?_ | refine zB ?_ | refine zC ?_ | refine zD ?_ | refine zE ?_ | refine zF ?_ | refine zG ?_ | refine zH ?_ | refine zJ ?_ | refine zI ?_ | refine splT ?_ | refine splF ?_ | refine splNot ?_
          | ((first | refine splIn (fun hc => ?_) (fun hc => ?_) | refine splD (fun hc => ?_) (fun hc => ?_) | refine splE (fun hc => ?_) (fun hc => ?_) | refine splNE (fun hc => ?_) (fun hc => ?_)) <;> first | (exfalso; omega) | (exfalso; dsimp only at hc; omega) | skip)
          | ((with_reducible show CallEv _ _ 27 _ _ _ _ _); refine callE (k := 27) (fun β w' hbw => h27 _ hbw) ?_)
          | ((with_reducible show CallEv _ _ 48 _ _ _ _ _); refine callE (k := 48) (fun β w' hbw => h48 _ hbw) ?_)
          | ((with_reducible show CallEv _ _ 30 _ _ _ _ _); refine callR [1, 2, 3, 4, 5, 6] [] (rigM 1 (p0 :: PP) (b0 :: BB) (l0 :: LL)) (rigS 1 (PP.length + 1) (b0 :: BB) (l0 :: LL) f0 f1 f2) rfl (fun i b hi => by rcases rigM_mem hi with ⟨rfl, _⟩ | ⟨rfl, _⟩ | ⟨rfl, _⟩ <;> decide) (fun β w' _ hbw => (h30 w' hbw).mono fun e w2 h => rig_mv h) ?_)
          | (refine remE (by omega) (by omega) ?_; rw [hwz])
          | refine Exists.intro (α := Value) (iv at_) ⟨cv8 at_ hat, ?_⟩
          | refine Exists.intro (α := Value) (iv by_) ⟨cv16 by_ hby, ?_⟩
          | (refine remE (by omega) (by omega) ?_; rw [hkk])
          | refine Exists.intro (α := List Value) [iv mw] ⟨⟨rfl, hah⟩, ?_⟩
          | (refine And.intro (a := _ + _ ≤ List.length _) hul ?_; rw [hu])
        all_goals first | (exfalso; omega) | skip
        exact ⟨rfl, Dis.mk [1, 3, 5] (fun i hi => by simp at hi; rcases hi with rfl | rfl | rfl <;> exact ⟨_, rfl, rfl⟩) fun β w1 hb hw => ⟨((some ⟨β 1, 0, none⟩, β 2), (some ⟨β 3, 0, none⟩, β 4), (some ⟨β 5, 0, none⟩, β 6)), trivial, ⟨⟨_, rfl, rfl⟩, ⟨_, rfl, rfl⟩, trivial⟩, ⟨⟨rfl, _, _, _, rfl, rfl, rfl⟩, ⟨rfl, _, _, _, rfl, rfl, by rw [hSl]; rfl⟩, trivial⟩, fun w2 h2 hb2 => ⟨h2, Rd.of_owns (sz := 1) (f := iF) (fun _ => rfl) rfl rfl (hb2 1 (by simp) _ rfl), Rd.of_owns (sz := 8) (f := Bm.cs) (fun _ => rfl) rfl rfl (by rw [hSl]; exact hb2 3 (by simp) _ rfl), Rd.of_owns (sz := 5) (f := Ld.cs) (fun _ => rfl) rfl rfl (by exact hb2 5 (by simp) _ rfl)⟩⟩⟩
end Go.Proofs.Ytaciigegbgnadaa
