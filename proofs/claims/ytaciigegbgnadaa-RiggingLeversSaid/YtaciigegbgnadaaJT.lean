/- RiggingLevers answers true. By JT.py. -/
import Derived.Test.YtaciigegbgnadaaJS
namespace Go.Proofs.Ytaciigegbgnadaa
open Go Tx Go.RowKit
set_option linter.unusedSimpArgs false
set_option linter.unusedVariables false

abbrev wF (n : Int) : List Value := [.int .u16 n]
theorem pul_gl {r : Rig} {f0 f1 f2 : Int} {PP : List Int} {BB : List Bm} {LL : List Ld} (hr : rigOk f0 f1 f2 PP BB LL = true) (hf : r.f0 = f0 ∧ r.f1 = f1 ∧ r.f2 = f2) {D : List Int} (hl : D.length = LL.length) (hD : ∀ x ∈ D, 0 ≤ x ∧ x ≤ 1000000) : pulB r (LL.map gl) D = true := by
  obtain ⟨e0, e1, e2⟩ := hf
  subst e0; subst e1; subst e2
  refine pulB_of (by rw [List.length_map]; exact hl) fun k n l h1 h2 => ?_
  have hri := rigOk_iff.1 hr
  rw [List.getElem?_map] at h2
  cases hx : LL[k]? with
  | none => rw [hx] at h2; cases h2
  | some l0 =>
    rw [hx] at h2
    simp only [Option.map_some, Option.some.injEq] at h2
    subst h2
    have hb := hiP_bd (l := gl l0) (fac_bd (r := r) hri.2.2.2.2.2.1 (gl l0).kind) (by show (0 : Int) ≤ 1000000 ∧ (1000000 : Int) ≤ 1000000; omega)
    have := hD n (List.mem_of_getElem? h1)
    have h0 : (gl l0).hi = 1000000 := rfl
    have h00 : (gl l0).lo = 0 := rfl
    omega
theorem pz_bd {f : Nat → Int} {B : Int} (hB : 0 ≤ B) (hf : ∀ i, 0 ≤ f i ∧ f i ≤ B) (n k : Nat) : ∀ x ∈ pz f n k, 0 ≤ x ∧ x ≤ B := fun x hx => by
  unfold pz at hx
  obtain ⟨i, _, rfl⟩ := List.mem_map.1 hx
  split
  · exact hf i
  · omega
/-- What the four sets of pulls make each part bear. -/
theorem lev_row {f0 f1 f2 : Int} {PP : List Int} {BB : List Bm} {GG : List Ld} (hr : rigOk f0 f1 f2 PP BB GG = true) {n : Nat} (hn : n ≤ 20) {u v : Nat → Int} (hu : ∀ i, 0 ≤ u i ∧ u i ≤ 65535) (hv : ∀ i, 0 ≤ v i ∧ v i ≤ 65535) {x : Row} (hx : rowQ x) :
    dotR x (pz u n n) (pz u n n).length + dotR x (pz v n n) (pz v n n).length = dotR x (pz (fun i => u i + v i) n n) (pz (fun i => u i + v i) n n).length + dotR x (List.replicate n (0 : Int)) (List.replicate n (0 : Int)).length ∧
    (-400000000000000000 ≤ dotR x (pz u n n) (pz u n n).length ∧ dotR x (pz u n n) (pz u n n).length ≤ 400000000000000000) ∧ (-400000000000000000 ≤ dotR x (pz v n n) (pz v n n).length ∧ dotR x (pz v n n) (pz v n n).length ≤ 400000000000000000) ∧
    (-400000000000000000 ≤ dotR x (pz (fun i => u i + v i) n n) (pz (fun i => u i + v i) n n).length ∧ dotR x (pz (fun i => u i + v i) n n) (pz (fun i => u i + v i) n n).length ≤ 400000000000000000) ∧ (-400000000000000000 ≤ dotR x (List.replicate n (0 : Int)) (List.replicate n (0 : Int)).length ∧ dotR x (List.replicate n (0 : Int)) (List.replicate n (0 : Int)).length ≤ 400000000000000000) := by
  have hz : ∀ i, (List.replicate n (0 : Int)).getD i 0 = 0 := fun i => by
    rw [List.getD_eq_getElem?_getD, List.getElem?_replicate]; split <;> rfl
  have bd : ∀ D : List Int, D.length = n → (∀ x ∈ D, 0 ≤ x ∧ x ≤ 1000000) → -400000000000000000 ≤ dotR x D D.length ∧ dotR x D D.length ≤ 400000000000000000 := fun D hl hD => by
    have := dotR_q hx (P := D) ⟨by omega, fun m hm => by have := hD m hm; omega⟩ D.length (Nat.le_refl _)
    omega
  refine ⟨?_, bd _ (pz_len _ _ _) fun y hy => by have := pz_bd (by omega) hu n n y hy; omega, bd _ (pz_len _ _ _) fun y hy => by have := pz_bd (by omega) hv n n y hy; omega, bd _ (pz_len _ _ _) fun y hy => by have := pz_bd (f := fun i => u i + v i) (B := 131070) (by omega) (fun i => by have := hu i; have := hv i; omega) n n y hy; omega, bd _ (by simp) fun y hy => by rw [List.eq_of_mem_replicate hy]; omega⟩
  rw [pz_len, pz_len, pz_len, List.length_replicate]
  refine dotR_add x _ _ _ _ (fun i => ?_) hz n
  rw [pz_getD, pz_getD, pz_getD]
  split <;> omega
theorem pul_snoc {r : Rig} : ∀ {L : List Ld} {P : List Int} {l : Ld} {n : Int}, pulB r L P = true → (l.lo ≤ n ∧ n ≤ hiP r l) → pulB r (L ++ [l]) (P ++ [n]) = true
  | [], [], l, n, _, h => by show pulB r [l] [n] = true; rw [pulB, inB_iff.2 h]; rfl
  | [], _ :: _, _, _, h, _ => by simp [pulB] at h
  | _ :: _, [], _, _, h, _ => by simp [pulB] at h
  | l0 :: L, n0 :: P, l, n, h, hl => by
    rw [pulB, Bool.and_eq_true] at h
    show pulB r (l0 :: (L ++ [l])) (n0 :: (P ++ [n])) = true
    rw [pulB, h.1, pul_snoc h.2 hl]; rfl
theorem st_lo' {X Y : List Ld} {l : Ld} {k : Nat} (hk : X.length = k) (v : Int) : ((X ++ l :: Y).flatMap Ld.cs).take ((k : Int).toNat * ti69.size + 3) ++ [iv v] ++ ((X ++ l :: Y).flatMap Ld.cs).drop ((k : Int).toNat * ti69.size + 3 + [iv v].length) = (X ++ ⟨l.beam, l.at', l.kind, v, l.hi⟩ :: Y).flatMap Ld.cs := by
  rw [Int.toNat_natCast, show ti69.size = 5 from rfl]; exact st_lo hk v
theorem st_hi' {X Y : List Ld} {l : Ld} {k : Nat} (hk : X.length = k) (v : Int) : ((X ++ l :: Y).flatMap Ld.cs).take ((k : Int).toNat * ti69.size + 4) ++ [iv v] ++ ((X ++ l :: Y).flatMap Ld.cs).drop ((k : Int).toNat * ti69.size + 4 + [iv v].length) = (X ++ ⟨l.beam, l.at', l.kind, l.lo, v⟩ :: Y).flatMap Ld.cs := by
  rw [Int.toNat_natCast, show ti69.size = 5 from rfl]; exact st_hi hk v
theorem st_len' {X Y : List Ld} {l : Ld} {k : Nat} (hk : X.length = k) (o : Nat) (ho : o < 5) (v : Int) : (k : Int).toNat * 5 + o + [iv v].length ≤ ((X ++ l :: Y).flatMap Ld.cs).length := by
  rw [Int.toNat_natCast]; exact st_len hk ho v

set_option maxHeartbeats 16000000 in
set_option maxRecDepth 100000 in
theorem LevBn (po bo lo : Option Addr) (pn pc bn bc ln lc : Nat) (f0 f1 f2 : Int) (PP : List Int) (BB : List Bm) (LL GG : List Ld) (w : World) (hX : RigX ⟨po, pn, pc, bo, bn, bc, f0, f1, f2, lo, ln, lc⟩ PP BB LL w) (hr : rigOk f0 f1 f2 PP BB LL = true) (hGG : GG = LL.map gl) (n : Nat) (hn : LL.length = n) (W1 W2 : List Int) (wo xo : Option Addr) (wc xc : Nat) (hW1 : Rd 1 wF (.slice wo W1.length wc) W1 w) (hW2 : Rd 1 wF (.slice xo W2.length xc) W2 w) (hw1 : W1.length ≤ 9223372036854775807) (hw2 : W2.length ≤ 9223372036854775807) (hb1 : ∀ x ∈ W1, 0 ≤ x ∧ x ≤ 65535) (hb2 : ∀ x ∈ W2, 0 ≤ x ∧ x ≤ 65535) (bm pl : Int) (hbm : 0 ≤ bm ∧ bm ≤ 255) (hpl : 0 ≤ pl ∧ pl ≤ 255) (y1 y2 : Option Addr × Nat)
    (hC : ∀ (A B C Z : List Int) (u v : Nat → Int), A = pz u n n → B = pz v n n → C = pz (fun i => u i + v i) n n → Z = List.replicate n (0 : Int) → (∀ i, 0 ≤ u i ∧ u i ≤ 65535) → (∀ i, 0 ≤ v i ∧ v i ≤ 65535) → ∀ (ya yb yc yd : Option Addr × Nat), VC Try.prog (rest 3 (rest 4 body5)) ⟨402, [(3, .v (.int .u8 bm)), (4, .v (.int .u8 pl)), (5, .ptr 0 0), (11, .ptr 7 0), (13, .v (iv n)), (14, .v (sV n ya)), (15, .v (sV n yb)), (16, .v (sV n yc)), (17, .v (sV n yd))], [(0, .cells [.v (.slice po pn pc), .v (.slice bo bn bc), .v (iv f0), .v (iv f1), .v (iv f2), .v (.slice lo ln lc)] 48), (7, .cells [.v (sV PP.length y1), .v (sV BB.length y2), .v (iv f0), .v (iv f1), .v (iv f2), .v (.slice none 0 0)] 58)], 8, fun w2 => Below w.heap.size w w2 ∧ Rd 1 iF (sV PP.length y1) PP w2 ∧ Rd 8 Bm.cs (sV BB.length y2) BB w2 ∧ Rd 1 iF (sV n ya) A w2 ∧ Rd 1 iF (sV n yb) B w2 ∧ Rd 1 iF (sV n yc) C w2 ∧ Rd 1 iF (sV n yd) Z w2, z0⟩ (endΦ env Try.f5 fun s σ => (∀ β, s.c β = .bool true) ∧ ∀ w', σ.h w' → Below w.heap.size w w')) :
    VC Try.prog (rest 4 body5) ⟨402, [(1, .v (.slice wo W1.length wc)), (2, .v (.slice xo W2.length xc)), (3, .v (.int .u8 bm)), (4, .v (.int .u8 pl)), (5, .ptr 0 0), (11, .ptr 7 0)], [(0, .cells [.v (.slice po pn pc), .v (.slice bo bn bc), .v (iv f0), .v (iv f1), .v (iv f2), .v (.slice lo ln lc)] 48), (7, .cells [.v (sV PP.length y1), .v (sV BB.length y2), .v (iv f0), .v (iv f1), .v (iv f2), .v (.slice none 0 0)] 58)], 8, fun w2 => Below w.heap.size w w2 ∧ Rd 1 iF (sV PP.length y1) PP w2 ∧ Rd 8 Bm.cs (sV BB.length y2) BB w2, z0⟩ (endΦ env Try.f5 fun s σ => (∀ β, s.c β = .bool true) ∧ ∀ w', σ.h w' → Below w.heap.size w w') := by
  have hri := rigOk_iff.1 hr
  have hm12 : BB.length ≤ 12 := hri.2.2.1
  have hl20 : LL.length ≤ 20 := hri.2.2.2.2.1
  have hP1 := hri.1
  have hpn := hX.pn
  have hbn := hX.bn
  have hln := hX.ln
  dsimp only at hpn hbn hln
  rw [hn] at hln
  subst hpn
  subst hbn
  subst hln
  obtain ⟨u, hu⟩ : ∃ u : Nat → Int, u = fun i => W1.getD i 0 := ⟨_, rfl⟩
  obtain ⟨v, hv⟩ : ∃ v : Nat → Int, v = fun i => W2.getD i 0 := ⟨_, rfl⟩
  have hub : ∀ i, 0 ≤ u i ∧ u i ≤ 65535 := fun i => by
    rw [hu]; dsimp only; rw [List.getD_eq_getElem?_getD]
    cases h : W1[i]? with
    | none => simp
    | some x => exact hb1 x (List.mem_of_getElem? h)
  have hvb : ∀ i, 0 ≤ v i ∧ v i ≤ 65535 := fun i => by
    rw [hv]; dsimp only; rw [List.getD_eq_getElem?_getD]
    cases h : W2[i]? with
    | none => simp
    | some x => exact hb2 x (List.mem_of_getElem? h)
  have hC := hC _ _ _ _ u v rfl rfl rfl rfl hub hvb
  have lA := fun k => pz_len u ln k
  have lB := fun k => pz_len v ln k
  have lC := fun k => pz_len (fun i => u i + v i) ln k
  refine VC.cutD env mixed 3 8 (fun x : (Option Addr × Nat) × (Option Addr × Nat) × (Option Addr × Nat) × (Option Addr × Nat) => [(3, .v (.int .u8 bm)), (4, .v (.int .u8 pl)), (5, .ptr 0 0), (11, .ptr 7 0), (13, .v (iv ln)), (14, .v (sV ln x.1)), (15, .v (sV ln x.2.1)), (16, .v (sV ln x.2.2.1)), (17, .v (sV ln x.2.2.2))]) (fun _ => [(0, .cells [.v (.slice po PP.length pc), .v (.slice bo BB.length bc), .v (iv f0), .v (iv f1), .v (iv f2), .v (.slice lo ln lc)] 48), (7, .cells [.v (sV PP.length y1), .v (sV BB.length y2), .v (iv f0), .v (iv f1), .v (iv f2), .v (.slice none 0 0)] 58)])
    (fun x w2 => Below w.heap.size w w2 ∧ Rd 1 iF (sV PP.length y1) PP w2 ∧ Rd 8 Bm.cs (sV BB.length y2) BB w2 ∧ Rd 1 iF (sV ln x.1) (pz u ln ln) w2 ∧ Rd 1 iF (sV ln x.2.1) (pz v ln ln) w2 ∧ Rd 1 iF (sV ln x.2.2.1) (pz (fun i => u i + v i) ln ln) w2 ∧ Rd 1 iF (sV ln x.2.2.2) (List.replicate ln (0 : Int)) w2) (fun _ => True) (fun _ _ => ⟨rfl, rfl⟩) ?_ (fun x _ => hC x.1 x.2.1 x.2.2.1 x.2.2.2)
  clear hC
  repeat'
   conv => whnf
   first
    | refine zA ?_ | refine zB ?_ | refine zC ?_ | refine zD ?_ | refine zE ?_ | refine zF ?_ | refine zG ?_ | refine zH ?_ | refine zJ ?_ | refine zI ?_ | refine splT ?_ | refine splF ?_ | refine splNot ?_
    | ((first | refine splIn (fun hc => ?_) (fun hc => ?_) | refine splD (fun hc => ?_) (fun hc => ?_) | refine splE (fun hc => ?_) (fun hc => ?_) | refine splNE (fun hc => ?_) (fun hc => ?_)) <;> first | (exfalso; omega) | (exfalso; dsimp only at hc; omega) | skip)
    | refine mkO env 8 ln ((List.replicate ln (0 : Int)).flatMap iF) rfl rfl rfl (by decide) rfl (by omega) (by decide) (by rw [List.flatMap_replicate]; rfl) rfl ?_
    | refine mkO env 10 ln ((List.replicate ln (0 : Int)).flatMap iF) rfl rfl rfl (by decide) rfl (by omega) (by decide) (by rw [List.flatMap_replicate]; rfl) rfl ?_
    | refine mkO env 12 ln ((List.replicate ln (0 : Int)).flatMap iF) rfl rfl rfl (by decide) rfl (by omega) (by decide) (by rw [List.flatMap_replicate]; rfl) rfl ?_
    | refine mkO env 14 ln ((List.replicate ln (0 : Int)).flatMap iF) rfl rfl rfl (by decide) rfl (by omega) (by decide) (by rw [List.flatMap_replicate]; rfl) rfl ?_
  all_goals first | (exfalso; omega) | skip
  refine loopN 16 (fun k : Nat => [(1, .v (.slice wo W1.length wc)), (2, .v (.slice xo W2.length xc)), (3, .v (.int .u8 bm)), (4, .v (.int .u8 pl)), (5, .ptr 0 0), (11, .ptr 7 0), (13, .v (iv ln)), (14, .os 8 9 ln), (15, .os 10 11 ln), (16, .os 12 13 ln), (17, .os 14 15 ln), (18, .v (iv k))]) (fun k => [(0, .cells [.v (.slice po PP.length pc), .v (.slice bo BB.length bc), .v (iv f0), .v (iv f1), .v (iv f2), .v (.slice lo ln lc)] 48), (7, .cells [.v (sV PP.length y1), .v (sV BB.length y2), .v (iv f0), .v (iv f1), .v (iv f2), .v (.slice none 0 0)] 58), (8, .own 9 ln 1 ((pz u ln k).flatMap iF) 3), (10, .own 11 ln 1 ((pz v ln k).flatMap iF) 3), (12, .own 13 ln 1 ((pz (fun i => u i + v i) ln k).flatMap iF) 3), (14, .own 15 ln 1 ((List.replicate ln (0 : Int)).flatMap iF) 3)])
    (fun k => k ≤ ln) (fun k => ln - k) 0 (Nat.zero_le _) ⟨rfl, rfl, rfl, rfl, rfl, rfl, rfl, rfl, rfl, rfl, rfl, rfl, trivial⟩ ⟨rfl, rfl, by rw [pz_zero]; rfl, by rw [pz_zero]; rfl, by rw [pz_zero]; rfl, rfl, trivial⟩ (fun _ _ => ⟨rfl, rfl⟩) ?_
  intro k hk
  rcases Nat.lt_or_ge k ln with hkl | hkl
  · have kA : k < (pz u ln k).length := by rw [lA]; exact hkl
    have kB : k < (pz v ln k).length := by rw [lB]; exact hkl
    have kC : k < (pz (fun i => u i + v i) ln k).length := by rw [lC]; exact hkl
    have sA := pz_set u ln k
    have sB := pz_set v ln k
    have sC := pz_set (fun i => u i + v i) ln k
    have aA : (pz u ln (k + 1))[k]? = some (u k) := by rw [pz_at u hkl, if_pos (by omega)]
    have aB : (pz v ln (k + 1))[k]? = some (v k) := by rw [pz_at v hkl, if_pos (by omega)]
    have huk := hub k
    have hvk := hvb k
    have fin : ∀ x : Int, True := fun _ => trivial
    by_cases h1 : k < W1.length
    · by_cases h2 : k < W2.length
      · obtain ⟨n1, hn1⟩ : ∃ n1, W1[k]? = some n1 := ⟨_, List.getElem?_eq_getElem h1⟩
        have e1 : u k = n1 := by rw [hu]; dsimp only; rw [List.getD_eq_getElem?_getD, hn1]; rfl
        obtain ⟨_, ad1, rfl, _⟩ := hW1.ptr (by omega)
        have g1 := fun (w' : World) (hb : Below w.heap.size w w') => rd_ati (hW1.below hb) hn1
        obtain ⟨n2, hn2⟩ : ∃ n2, W2[k]? = some n2 := ⟨_, List.getElem?_eq_getElem h2⟩
        have e2 : v k = n2 := by rw [hv]; dsimp only; rw [List.getD_eq_getElem?_getD, hn2]; rfl
        obtain ⟨_, ad2, rfl, _⟩ := hW2.ptr (by omega)
        have g2 := fun (w' : World) (hb : Below w.heap.size w w') => rd_ati (hW2.below hb) hn2
        rw [e1] at sA sC aA huk
        rw [e2] at sB sC aB hvk
        skip
        repeat'
         conv => whnf
         first
          | refine zA ?_ | refine zB ?_ | refine zC ?_ | refine zD ?_ | refine zE ?_ | refine zF ?_ | refine zG ?_ | refine zH ?_ | refine zJ ?_ | refine zI ?_ | refine splT ?_ | refine splF ?_ | refine splNot ?_
          | ((first | refine splIn (fun hc => ?_) (fun hc => ?_) | refine splD (fun hc => ?_) (fun hc => ?_) | refine splE (fun hc => ?_) (fun hc => ?_) | refine splNE (fun hc => ?_) (fun hc => ?_)) <;> first | (exfalso; omega) | (exfalso; dsimp only at hc; omega) | skip)
          | refine Exists.intro (α := List Value) [.int .u16 n1] ⟨⟨rfl, fun w' hw' => g1 w' hw'.1⟩, ?_⟩
          | refine Exists.intro (α := Value) (iv n1) ⟨cv16 n1 huk, ?_⟩
          | (refine And.intro (a := _ + _ ≤ List.length _) (stS' kA _) ?_; rw [stE kA, sA])
          | refine Exists.intro (α := List Value) [.int .u16 n2] ⟨⟨rfl, fun w' hw' => g2 w' hw'.1⟩, ?_⟩
          | refine Exists.intro (α := Value) (iv n2) ⟨cv16 n2 hvk, ?_⟩
          | (refine And.intro (a := _ + _ ≤ List.length _) (stS' kB _) ?_; rw [stE kB, sB])
          | refine Exists.intro (α := List Value) [iv n1] ⟨⟨rfl, atS aA⟩, ?_⟩
          | refine Exists.intro (α := List Value) [iv n2] ⟨⟨rfl, atS aB⟩, ?_⟩
          | (refine And.intro (a := _ + _ ≤ List.length _) (stS' kC _) ?_; rw [stE kC, sC])
        all_goals first | (exfalso; omega) | exact ⟨k + 1, by omega, by omega, Ent.weak rfl ⟨rfl, rfl, rfl, rfl, rfl, rfl, rfl, rfl, rfl, rfl, rfl, rfl, trivial⟩ ⟨rfl, rfl, rfl, rfl, rfl, rfl, trivial⟩ fun _ h => h⟩
      · obtain ⟨n1, hn1⟩ : ∃ n1, W1[k]? = some n1 := ⟨_, List.getElem?_eq_getElem h1⟩
        have e1 : u k = n1 := by rw [hu]; dsimp only; rw [List.getD_eq_getElem?_getD, hn1]; rfl
        obtain ⟨_, ad1, rfl, _⟩ := hW1.ptr (by omega)
        have g1 := fun (w' : World) (hb : Below w.heap.size w w') => rd_ati (hW1.below hb) hn1
        have e2 : v k = 0 := by rw [hv]; dsimp only; rw [List.getD_eq_getElem?_getD, List.getElem?_eq_none (by omega)]; rfl
        rw [pz_skip v ln k e2]
        rw [e1] at sA sC aA huk
        skip
        repeat'
         conv => whnf
         first
          | refine zA ?_ | refine zB ?_ | refine zC ?_ | refine zD ?_ | refine zE ?_ | refine zF ?_ | refine zG ?_ | refine zH ?_ | refine zJ ?_ | refine zI ?_ | refine splT ?_ | refine splF ?_ | refine splNot ?_
          | ((first | refine splIn (fun hc => ?_) (fun hc => ?_) | refine splD (fun hc => ?_) (fun hc => ?_) | refine splE (fun hc => ?_) (fun hc => ?_) | refine splNE (fun hc => ?_) (fun hc => ?_)) <;> first | (exfalso; omega) | (exfalso; dsimp only at hc; omega) | skip)
          | refine Exists.intro (α := List Value) [.int .u16 n1] ⟨⟨rfl, fun w' hw' => g1 w' hw'.1⟩, ?_⟩
          | refine Exists.intro (α := Value) (iv n1) ⟨cv16 n1 huk, ?_⟩
          | (refine And.intro (a := _ + _ ≤ List.length _) (stS' kA _) ?_; rw [stE kA, sA])
          | refine Exists.intro (α := List Value) [iv n1] ⟨⟨rfl, atS aA⟩, ?_⟩
          | refine Exists.intro (α := List Value) [iv (v k)] ⟨⟨rfl, atS aB⟩, ?_⟩
          | (refine And.intro (a := _ + _ ≤ List.length _) (stS' kC _) ?_; rw [stE kC, sC])
        all_goals first | (exfalso; omega) | exact ⟨k + 1, by omega, by omega, Ent.weak rfl ⟨rfl, rfl, rfl, rfl, rfl, rfl, rfl, rfl, rfl, rfl, rfl, rfl, trivial⟩ ⟨rfl, rfl, rfl, rfl, rfl, rfl, trivial⟩ fun _ h => h⟩
    · by_cases h2 : k < W2.length
      · have e1 : u k = 0 := by rw [hu]; dsimp only; rw [List.getD_eq_getElem?_getD, List.getElem?_eq_none (by omega)]; rfl
        rw [pz_skip u ln k e1]
        obtain ⟨n2, hn2⟩ : ∃ n2, W2[k]? = some n2 := ⟨_, List.getElem?_eq_getElem h2⟩
        have e2 : v k = n2 := by rw [hv]; dsimp only; rw [List.getD_eq_getElem?_getD, hn2]; rfl
        obtain ⟨_, ad2, rfl, _⟩ := hW2.ptr (by omega)
        have g2 := fun (w' : World) (hb : Below w.heap.size w w') => rd_ati (hW2.below hb) hn2
        rw [e2] at sB sC aB hvk
        skip
        repeat'
         conv => whnf
         first
          | refine zA ?_ | refine zB ?_ | refine zC ?_ | refine zD ?_ | refine zE ?_ | refine zF ?_ | refine zG ?_ | refine zH ?_ | refine zJ ?_ | refine zI ?_ | refine splT ?_ | refine splF ?_ | refine splNot ?_
          | ((first | refine splIn (fun hc => ?_) (fun hc => ?_) | refine splD (fun hc => ?_) (fun hc => ?_) | refine splE (fun hc => ?_) (fun hc => ?_) | refine splNE (fun hc => ?_) (fun hc => ?_)) <;> first | (exfalso; omega) | (exfalso; dsimp only at hc; omega) | skip)
          | refine Exists.intro (α := List Value) [.int .u16 n2] ⟨⟨rfl, fun w' hw' => g2 w' hw'.1⟩, ?_⟩
          | refine Exists.intro (α := Value) (iv n2) ⟨cv16 n2 hvk, ?_⟩
          | (refine And.intro (a := _ + _ ≤ List.length _) (stS' kB _) ?_; rw [stE kB, sB])
          | refine Exists.intro (α := List Value) [iv (u k)] ⟨⟨rfl, atS aA⟩, ?_⟩
          | refine Exists.intro (α := List Value) [iv n2] ⟨⟨rfl, atS aB⟩, ?_⟩
          | (refine And.intro (a := _ + _ ≤ List.length _) (stS' kC _) ?_; rw [stE kC, sC])
        all_goals first | (exfalso; omega) | exact ⟨k + 1, by omega, by omega, Ent.weak rfl ⟨rfl, rfl, rfl, rfl, rfl, rfl, rfl, rfl, rfl, rfl, rfl, rfl, trivial⟩ ⟨rfl, rfl, rfl, rfl, rfl, rfl, trivial⟩ fun _ h => h⟩
      · have e1 : u k = 0 := by rw [hu]; dsimp only; rw [List.getD_eq_getElem?_getD, List.getElem?_eq_none (by omega)]; rfl
        rw [pz_skip u ln k e1]
        have e2 : v k = 0 := by rw [hv]; dsimp only; rw [List.getD_eq_getElem?_getD, List.getElem?_eq_none (by omega)]; rfl
        rw [pz_skip v ln k e2]
        skip
        repeat'
         conv => whnf
         first
          | refine zA ?_ | refine zB ?_ | refine zC ?_ | refine zD ?_ | refine zE ?_ | refine zF ?_ | refine zG ?_ | refine zH ?_ | refine zJ ?_ | refine zI ?_ | refine splT ?_ | refine splF ?_ | refine splNot ?_
          | ((first | refine splIn (fun hc => ?_) (fun hc => ?_) | refine splD (fun hc => ?_) (fun hc => ?_) | refine splE (fun hc => ?_) (fun hc => ?_) | refine splNE (fun hc => ?_) (fun hc => ?_)) <;> first | (exfalso; omega) | (exfalso; dsimp only at hc; omega) | skip)
          | refine Exists.intro (α := List Value) [iv (u k)] ⟨⟨rfl, atS aA⟩, ?_⟩
          | refine Exists.intro (α := List Value) [iv (v k)] ⟨⟨rfl, atS aB⟩, ?_⟩
          | (refine And.intro (a := _ + _ ≤ List.length _) (stS' kC _) ?_; rw [stE kC, sC])
        all_goals first | (exfalso; omega) | exact ⟨k + 1, by omega, by omega, Ent.weak rfl ⟨rfl, rfl, rfl, rfl, rfl, rfl, rfl, rfl, rfl, rfl, rfl, rfl, trivial⟩ ⟨rfl, rfl, rfl, rfl, rfl, rfl, trivial⟩ fun _ h => h⟩
  · obtain rfl : k = ln := by omega
    repeat'
     conv => whnf
     first
      | refine zA ?_ | refine zB ?_ | refine zC ?_ | refine zD ?_ | refine zE ?_ | refine zF ?_ | refine zG ?_ | refine zH ?_ | refine zJ ?_ | refine zI ?_ | refine splT ?_ | refine splF ?_ | refine splNot ?_
      | ((first | refine splIn (fun hc => ?_) (fun hc => ?_) | refine splD (fun hc => ?_) (fun hc => ?_) | refine splE (fun hc => ?_) (fun hc => ?_) | refine splNE (fun hc => ?_) (fun hc => ?_)) <;> first | (exfalso; omega) | (exfalso; dsimp only at hc; omega) | skip)
    all_goals first | (exfalso; omega) | skip
    exact ⟨rfl, Dis.mk2 [8, 10, 12, 14] (fun i hi => by simp at hi; rcases hi with rfl | rfl | rfl | rfl <;> exact ⟨_, rfl, rfl⟩) fun β w1 hb hw => ⟨((some ⟨β 8, 0, none⟩, β 9), (some ⟨β 10, 0, none⟩, β 11), (some ⟨β 12, 0, none⟩, β 13), (some ⟨β 14, 0, none⟩, β 15)), trivial, ⟨⟨_, rfl, rfl⟩, ⟨_, rfl, rfl⟩, ⟨_, rfl, rfl⟩, ⟨_, rfl, rfl⟩, ⟨_, rfl, rfl⟩, ⟨_, rfl, rfl⟩, ⟨_, rfl, rfl⟩, ⟨_, rfl, rfl⟩, ⟨_, rfl, rfl⟩, trivial⟩, ⟨⟨rfl, _, rfl, fun _ => rfl, fun _ _ h => h⟩, ⟨rfl, _, rfl, fun _ => rfl, fun _ _ h => h⟩, trivial⟩,
      fun w2 h2 hb2 => ⟨h2.1, h2.2.1, h2.2.2, Rd.of_owns (sz := 1) (f := iF) (fun _ => rfl) rfl (lA _).symm (hb2 8 (by simp) _ rfl), Rd.of_owns (sz := 1) (f := iF) (fun _ => rfl) rfl (lB _).symm (hb2 10 (by simp) _ rfl), Rd.of_owns (sz := 1) (f := iF) (fun _ => rfl) rfl (lC _).symm (hb2 12 (by simp) _ rfl), Rd.of_owns (sz := 1) (f := iF) (fun _ => rfl) rfl (by simp) (hb2 14 (by simp) _ rfl)⟩⟩⟩

set_option maxHeartbeats 16000000 in
set_option maxRecDepth 100000 in
theorem LevBc (po bo lo : Option Addr) (pn pc bn bc ln lc : Nat) (f0 f1 f2 : Int) (PP : List Int) (BB : List Bm) (LL GG : List Ld) (w : World) (hX : RigX ⟨po, pn, pc, bo, bn, bc, f0, f1, f2, lo, ln, lc⟩ PP BB LL w) (hr : rigOk f0 f1 f2 PP BB LL = true) (hGG : GG = LL.map gl) (n : Nat) (hn : LL.length = n) (W1 W2 : List Int) (wo xo : Option Addr) (wc xc : Nat) (hW1 : Rd 1 wF (.slice wo W1.length wc) W1 w) (hW2 : Rd 1 wF (.slice xo W2.length xc) W2 w) (hw1 : W1.length ≤ 9223372036854775807) (hw2 : W2.length ≤ 9223372036854775807) (hb1 : ∀ x ∈ W1, 0 ≤ x ∧ x ≤ 65535) (hb2 : ∀ x ∈ W2, 0 ≤ x ∧ x ≤ 65535) (bm pl : Int) (hbm : 0 ≤ bm ∧ bm ≤ 255) (hpl : 0 ≤ pl ∧ pl ≤ 255) (y1 y2 : Option Addr × Nat)
    (hC : ∀ (A B C Z : List Int) (u v : Nat → Int), A = pz u n n → B = pz v n n → C = pz (fun i => u i + v i) n n → Z = List.replicate n (0 : Int) → (∀ i, 0 ≤ u i ∧ u i ≤ 65535) → (∀ i, 0 ≤ v i ∧ v i ≤ 65535) → ∀ (ya yb yc yd : Option Addr × Nat), VC Try.prog (rest 3 (rest 4 body5)) ⟨402, [(3, .v (.int .u8 bm)), (4, .v (.int .u8 pl)), (5, .ptr 0 0), (11, .ptr 7 0), (13, .v (iv n)), (14, .v (sV n ya)), (15, .v (sV n yb)), (16, .v (sV n yc)), (17, .v (sV n yd))], [(0, .cells [.v (.slice po pn pc), .v (.slice bo bn bc), .v (iv f0), .v (iv f1), .v (iv f2), .v (.slice lo ln lc)] 48), (7, .cells [.v (sV PP.length y1), .v (sV BB.length y2), .v (iv f0), .v (iv f1), .v (iv f2), .os 5 6 n] 58), (5, .own 6 n 5 (GG.flatMap Ld.cs) 69)], 8, fun w2 => Below w.heap.size w w2 ∧ Rd 1 iF (sV PP.length y1) PP w2 ∧ Rd 8 Bm.cs (sV BB.length y2) BB w2 ∧ Rd 1 iF (sV n ya) A w2 ∧ Rd 1 iF (sV n yb) B w2 ∧ Rd 1 iF (sV n yc) C w2 ∧ Rd 1 iF (sV n yd) Z w2, z0⟩ (endΦ env Try.f5 fun s σ => (∀ β, s.c β = .bool true) ∧ ∀ w', σ.h w' → Below w.heap.size w w')) :
    VC Try.prog (rest 4 body5) ⟨402, [(1, .v (.slice wo W1.length wc)), (2, .v (.slice xo W2.length xc)), (3, .v (.int .u8 bm)), (4, .v (.int .u8 pl)), (5, .ptr 0 0), (11, .ptr 7 0)], [(0, .cells [.v (.slice po pn pc), .v (.slice bo bn bc), .v (iv f0), .v (iv f1), .v (iv f2), .v (.slice lo ln lc)] 48), (7, .cells [.v (sV PP.length y1), .v (sV BB.length y2), .v (iv f0), .v (iv f1), .v (iv f2), .os 5 6 n] 58), (5, .own 6 n 5 (GG.flatMap Ld.cs) 69)], 8, fun w2 => Below w.heap.size w w2 ∧ Rd 1 iF (sV PP.length y1) PP w2 ∧ Rd 8 Bm.cs (sV BB.length y2) BB w2, z0⟩ (endΦ env Try.f5 fun s σ => (∀ β, s.c β = .bool true) ∧ ∀ w', σ.h w' → Below w.heap.size w w') := by
  have hri := rigOk_iff.1 hr
  have hm12 : BB.length ≤ 12 := hri.2.2.1
  have hl20 : LL.length ≤ 20 := hri.2.2.2.2.1
  have hP1 := hri.1
  have hpn := hX.pn
  have hbn := hX.bn
  have hln := hX.ln
  dsimp only at hpn hbn hln
  rw [hn] at hln
  subst hpn
  subst hbn
  subst hln
  obtain ⟨u, hu⟩ : ∃ u : Nat → Int, u = fun i => W1.getD i 0 := ⟨_, rfl⟩
  obtain ⟨v, hv⟩ : ∃ v : Nat → Int, v = fun i => W2.getD i 0 := ⟨_, rfl⟩
  have hub : ∀ i, 0 ≤ u i ∧ u i ≤ 65535 := fun i => by
    rw [hu]; dsimp only; rw [List.getD_eq_getElem?_getD]
    cases h : W1[i]? with
    | none => simp
    | some x => exact hb1 x (List.mem_of_getElem? h)
  have hvb : ∀ i, 0 ≤ v i ∧ v i ≤ 65535 := fun i => by
    rw [hv]; dsimp only; rw [List.getD_eq_getElem?_getD]
    cases h : W2[i]? with
    | none => simp
    | some x => exact hb2 x (List.mem_of_getElem? h)
  have hC := hC _ _ _ _ u v rfl rfl rfl rfl hub hvb
  have lA := fun k => pz_len u ln k
  have lB := fun k => pz_len v ln k
  have lC := fun k => pz_len (fun i => u i + v i) ln k
  refine VC.cutD env mixed 3 8 (fun x : (Option Addr × Nat) × (Option Addr × Nat) × (Option Addr × Nat) × (Option Addr × Nat) => [(3, .v (.int .u8 bm)), (4, .v (.int .u8 pl)), (5, .ptr 0 0), (11, .ptr 7 0), (13, .v (iv ln)), (14, .v (sV ln x.1)), (15, .v (sV ln x.2.1)), (16, .v (sV ln x.2.2.1)), (17, .v (sV ln x.2.2.2))]) (fun _ => [(0, .cells [.v (.slice po PP.length pc), .v (.slice bo BB.length bc), .v (iv f0), .v (iv f1), .v (iv f2), .v (.slice lo ln lc)] 48), (7, .cells [.v (sV PP.length y1), .v (sV BB.length y2), .v (iv f0), .v (iv f1), .v (iv f2), .os 5 6 ln] 58), (5, .own 6 ln 5 (GG.flatMap Ld.cs) 69)])
    (fun x w2 => Below w.heap.size w w2 ∧ Rd 1 iF (sV PP.length y1) PP w2 ∧ Rd 8 Bm.cs (sV BB.length y2) BB w2 ∧ Rd 1 iF (sV ln x.1) (pz u ln ln) w2 ∧ Rd 1 iF (sV ln x.2.1) (pz v ln ln) w2 ∧ Rd 1 iF (sV ln x.2.2.1) (pz (fun i => u i + v i) ln ln) w2 ∧ Rd 1 iF (sV ln x.2.2.2) (List.replicate ln (0 : Int)) w2) (fun _ => True) (fun _ _ => ⟨rfl, rfl⟩) ?_ (fun x _ => hC x.1 x.2.1 x.2.2.1 x.2.2.2)
  clear hC
  repeat'
   conv => whnf
   first
    | refine zA ?_ | refine zB ?_ | refine zC ?_ | refine zD ?_ | refine zE ?_ | refine zF ?_ | refine zG ?_ | refine zH ?_ | refine zJ ?_ | refine zI ?_ | refine splT ?_ | refine splF ?_ | refine splNot ?_
    | ((first | refine splIn (fun hc => ?_) (fun hc => ?_) | refine splD (fun hc => ?_) (fun hc => ?_) | refine splE (fun hc => ?_) (fun hc => ?_) | refine splNE (fun hc => ?_) (fun hc => ?_)) <;> first | (exfalso; omega) | (exfalso; dsimp only at hc; omega) | skip)
    | refine mkO env 8 ln ((List.replicate ln (0 : Int)).flatMap iF) rfl rfl rfl (by decide) rfl (by omega) (by decide) (by rw [List.flatMap_replicate]; rfl) rfl ?_
    | refine mkO env 10 ln ((List.replicate ln (0 : Int)).flatMap iF) rfl rfl rfl (by decide) rfl (by omega) (by decide) (by rw [List.flatMap_replicate]; rfl) rfl ?_
    | refine mkO env 12 ln ((List.replicate ln (0 : Int)).flatMap iF) rfl rfl rfl (by decide) rfl (by omega) (by decide) (by rw [List.flatMap_replicate]; rfl) rfl ?_
    | refine mkO env 14 ln ((List.replicate ln (0 : Int)).flatMap iF) rfl rfl rfl (by decide) rfl (by omega) (by decide) (by rw [List.flatMap_replicate]; rfl) rfl ?_
  all_goals first | (exfalso; omega) | skip
  refine loopN 16 (fun k : Nat => [(1, .v (.slice wo W1.length wc)), (2, .v (.slice xo W2.length xc)), (3, .v (.int .u8 bm)), (4, .v (.int .u8 pl)), (5, .ptr 0 0), (11, .ptr 7 0), (13, .v (iv ln)), (14, .os 8 9 ln), (15, .os 10 11 ln), (16, .os 12 13 ln), (17, .os 14 15 ln), (18, .v (iv k))]) (fun k => [(0, .cells [.v (.slice po PP.length pc), .v (.slice bo BB.length bc), .v (iv f0), .v (iv f1), .v (iv f2), .v (.slice lo ln lc)] 48), (7, .cells [.v (sV PP.length y1), .v (sV BB.length y2), .v (iv f0), .v (iv f1), .v (iv f2), .os 5 6 ln] 58), (5, .own 6 ln 5 (GG.flatMap Ld.cs) 69), (8, .own 9 ln 1 ((pz u ln k).flatMap iF) 3), (10, .own 11 ln 1 ((pz v ln k).flatMap iF) 3), (12, .own 13 ln 1 ((pz (fun i => u i + v i) ln k).flatMap iF) 3), (14, .own 15 ln 1 ((List.replicate ln (0 : Int)).flatMap iF) 3)])
    (fun k => k ≤ ln) (fun k => ln - k) 0 (Nat.zero_le _) ⟨rfl, rfl, rfl, rfl, rfl, rfl, rfl, rfl, rfl, rfl, rfl, rfl, trivial⟩ ⟨rfl, rfl, rfl, by rw [pz_zero]; rfl, by rw [pz_zero]; rfl, by rw [pz_zero]; rfl, rfl, trivial⟩ (fun _ _ => ⟨rfl, rfl⟩) ?_
  intro k hk
  rcases Nat.lt_or_ge k ln with hkl | hkl
  · have kA : k < (pz u ln k).length := by rw [lA]; exact hkl
    have kB : k < (pz v ln k).length := by rw [lB]; exact hkl
    have kC : k < (pz (fun i => u i + v i) ln k).length := by rw [lC]; exact hkl
    have sA := pz_set u ln k
    have sB := pz_set v ln k
    have sC := pz_set (fun i => u i + v i) ln k
    have aA : (pz u ln (k + 1))[k]? = some (u k) := by rw [pz_at u hkl, if_pos (by omega)]
    have aB : (pz v ln (k + 1))[k]? = some (v k) := by rw [pz_at v hkl, if_pos (by omega)]
    have huk := hub k
    have hvk := hvb k
    have fin : ∀ x : Int, True := fun _ => trivial
    by_cases h1 : k < W1.length
    · by_cases h2 : k < W2.length
      · obtain ⟨n1, hn1⟩ : ∃ n1, W1[k]? = some n1 := ⟨_, List.getElem?_eq_getElem h1⟩
        have e1 : u k = n1 := by rw [hu]; dsimp only; rw [List.getD_eq_getElem?_getD, hn1]; rfl
        obtain ⟨_, ad1, rfl, _⟩ := hW1.ptr (by omega)
        have g1 := fun (w' : World) (hb : Below w.heap.size w w') => rd_ati (hW1.below hb) hn1
        obtain ⟨n2, hn2⟩ : ∃ n2, W2[k]? = some n2 := ⟨_, List.getElem?_eq_getElem h2⟩
        have e2 : v k = n2 := by rw [hv]; dsimp only; rw [List.getD_eq_getElem?_getD, hn2]; rfl
        obtain ⟨_, ad2, rfl, _⟩ := hW2.ptr (by omega)
        have g2 := fun (w' : World) (hb : Below w.heap.size w w') => rd_ati (hW2.below hb) hn2
        rw [e1] at sA sC aA huk
        rw [e2] at sB sC aB hvk
        skip
        repeat'
         conv => whnf
         first
          | refine zA ?_ | refine zB ?_ | refine zC ?_ | refine zD ?_ | refine zE ?_ | refine zF ?_ | refine zG ?_ | refine zH ?_ | refine zJ ?_ | refine zI ?_ | refine splT ?_ | refine splF ?_ | refine splNot ?_
          | ((first | refine splIn (fun hc => ?_) (fun hc => ?_) | refine splD (fun hc => ?_) (fun hc => ?_) | refine splE (fun hc => ?_) (fun hc => ?_) | refine splNE (fun hc => ?_) (fun hc => ?_)) <;> first | (exfalso; omega) | (exfalso; dsimp only at hc; omega) | skip)
          | refine Exists.intro (α := List Value) [.int .u16 n1] ⟨⟨rfl, fun w' hw' => g1 w' hw'.1⟩, ?_⟩
          | refine Exists.intro (α := Value) (iv n1) ⟨cv16 n1 huk, ?_⟩
          | (refine And.intro (a := _ + _ ≤ List.length _) (stS' kA _) ?_; rw [stE kA, sA])
          | refine Exists.intro (α := List Value) [.int .u16 n2] ⟨⟨rfl, fun w' hw' => g2 w' hw'.1⟩, ?_⟩
          | refine Exists.intro (α := Value) (iv n2) ⟨cv16 n2 hvk, ?_⟩
          | (refine And.intro (a := _ + _ ≤ List.length _) (stS' kB _) ?_; rw [stE kB, sB])
          | refine Exists.intro (α := List Value) [iv n1] ⟨⟨rfl, atS aA⟩, ?_⟩
          | refine Exists.intro (α := List Value) [iv n2] ⟨⟨rfl, atS aB⟩, ?_⟩
          | (refine And.intro (a := _ + _ ≤ List.length _) (stS' kC _) ?_; rw [stE kC, sC])
        all_goals first | (exfalso; omega) | exact ⟨k + 1, by omega, by omega, Ent.weak rfl ⟨rfl, rfl, rfl, rfl, rfl, rfl, rfl, rfl, rfl, rfl, rfl, rfl, trivial⟩ ⟨rfl, rfl, rfl, rfl, rfl, rfl, rfl, trivial⟩ fun _ h => h⟩
      · obtain ⟨n1, hn1⟩ : ∃ n1, W1[k]? = some n1 := ⟨_, List.getElem?_eq_getElem h1⟩
        have e1 : u k = n1 := by rw [hu]; dsimp only; rw [List.getD_eq_getElem?_getD, hn1]; rfl
        obtain ⟨_, ad1, rfl, _⟩ := hW1.ptr (by omega)
        have g1 := fun (w' : World) (hb : Below w.heap.size w w') => rd_ati (hW1.below hb) hn1
        have e2 : v k = 0 := by rw [hv]; dsimp only; rw [List.getD_eq_getElem?_getD, List.getElem?_eq_none (by omega)]; rfl
        rw [pz_skip v ln k e2]
        rw [e1] at sA sC aA huk
        skip
        repeat'
         conv => whnf
         first
          | refine zA ?_ | refine zB ?_ | refine zC ?_ | refine zD ?_ | refine zE ?_ | refine zF ?_ | refine zG ?_ | refine zH ?_ | refine zJ ?_ | refine zI ?_ | refine splT ?_ | refine splF ?_ | refine splNot ?_
          | ((first | refine splIn (fun hc => ?_) (fun hc => ?_) | refine splD (fun hc => ?_) (fun hc => ?_) | refine splE (fun hc => ?_) (fun hc => ?_) | refine splNE (fun hc => ?_) (fun hc => ?_)) <;> first | (exfalso; omega) | (exfalso; dsimp only at hc; omega) | skip)
          | refine Exists.intro (α := List Value) [.int .u16 n1] ⟨⟨rfl, fun w' hw' => g1 w' hw'.1⟩, ?_⟩
          | refine Exists.intro (α := Value) (iv n1) ⟨cv16 n1 huk, ?_⟩
          | (refine And.intro (a := _ + _ ≤ List.length _) (stS' kA _) ?_; rw [stE kA, sA])
          | refine Exists.intro (α := List Value) [iv n1] ⟨⟨rfl, atS aA⟩, ?_⟩
          | refine Exists.intro (α := List Value) [iv (v k)] ⟨⟨rfl, atS aB⟩, ?_⟩
          | (refine And.intro (a := _ + _ ≤ List.length _) (stS' kC _) ?_; rw [stE kC, sC])
        all_goals first | (exfalso; omega) | exact ⟨k + 1, by omega, by omega, Ent.weak rfl ⟨rfl, rfl, rfl, rfl, rfl, rfl, rfl, rfl, rfl, rfl, rfl, rfl, trivial⟩ ⟨rfl, rfl, rfl, rfl, rfl, rfl, rfl, trivial⟩ fun _ h => h⟩
    · by_cases h2 : k < W2.length
      · have e1 : u k = 0 := by rw [hu]; dsimp only; rw [List.getD_eq_getElem?_getD, List.getElem?_eq_none (by omega)]; rfl
        rw [pz_skip u ln k e1]
        obtain ⟨n2, hn2⟩ : ∃ n2, W2[k]? = some n2 := ⟨_, List.getElem?_eq_getElem h2⟩
        have e2 : v k = n2 := by rw [hv]; dsimp only; rw [List.getD_eq_getElem?_getD, hn2]; rfl
        obtain ⟨_, ad2, rfl, _⟩ := hW2.ptr (by omega)
        have g2 := fun (w' : World) (hb : Below w.heap.size w w') => rd_ati (hW2.below hb) hn2
        rw [e2] at sB sC aB hvk
        skip
        repeat'
         conv => whnf
         first
          | refine zA ?_ | refine zB ?_ | refine zC ?_ | refine zD ?_ | refine zE ?_ | refine zF ?_ | refine zG ?_ | refine zH ?_ | refine zJ ?_ | refine zI ?_ | refine splT ?_ | refine splF ?_ | refine splNot ?_
          | ((first | refine splIn (fun hc => ?_) (fun hc => ?_) | refine splD (fun hc => ?_) (fun hc => ?_) | refine splE (fun hc => ?_) (fun hc => ?_) | refine splNE (fun hc => ?_) (fun hc => ?_)) <;> first | (exfalso; omega) | (exfalso; dsimp only at hc; omega) | skip)
          | refine Exists.intro (α := List Value) [.int .u16 n2] ⟨⟨rfl, fun w' hw' => g2 w' hw'.1⟩, ?_⟩
          | refine Exists.intro (α := Value) (iv n2) ⟨cv16 n2 hvk, ?_⟩
          | (refine And.intro (a := _ + _ ≤ List.length _) (stS' kB _) ?_; rw [stE kB, sB])
          | refine Exists.intro (α := List Value) [iv (u k)] ⟨⟨rfl, atS aA⟩, ?_⟩
          | refine Exists.intro (α := List Value) [iv n2] ⟨⟨rfl, atS aB⟩, ?_⟩
          | (refine And.intro (a := _ + _ ≤ List.length _) (stS' kC _) ?_; rw [stE kC, sC])
        all_goals first | (exfalso; omega) | exact ⟨k + 1, by omega, by omega, Ent.weak rfl ⟨rfl, rfl, rfl, rfl, rfl, rfl, rfl, rfl, rfl, rfl, rfl, rfl, trivial⟩ ⟨rfl, rfl, rfl, rfl, rfl, rfl, rfl, trivial⟩ fun _ h => h⟩
      · have e1 : u k = 0 := by rw [hu]; dsimp only; rw [List.getD_eq_getElem?_getD, List.getElem?_eq_none (by omega)]; rfl
        rw [pz_skip u ln k e1]
        have e2 : v k = 0 := by rw [hv]; dsimp only; rw [List.getD_eq_getElem?_getD, List.getElem?_eq_none (by omega)]; rfl
        rw [pz_skip v ln k e2]
        skip
        repeat'
         conv => whnf
         first
          | refine zA ?_ | refine zB ?_ | refine zC ?_ | refine zD ?_ | refine zE ?_ | refine zF ?_ | refine zG ?_ | refine zH ?_ | refine zJ ?_ | refine zI ?_ | refine splT ?_ | refine splF ?_ | refine splNot ?_
          | ((first | refine splIn (fun hc => ?_) (fun hc => ?_) | refine splD (fun hc => ?_) (fun hc => ?_) | refine splE (fun hc => ?_) (fun hc => ?_) | refine splNE (fun hc => ?_) (fun hc => ?_)) <;> first | (exfalso; omega) | (exfalso; dsimp only at hc; omega) | skip)
          | refine Exists.intro (α := List Value) [iv (u k)] ⟨⟨rfl, atS aA⟩, ?_⟩
          | refine Exists.intro (α := List Value) [iv (v k)] ⟨⟨rfl, atS aB⟩, ?_⟩
          | (refine And.intro (a := _ + _ ≤ List.length _) (stS' kC _) ?_; rw [stE kC, sC])
        all_goals first | (exfalso; omega) | exact ⟨k + 1, by omega, by omega, Ent.weak rfl ⟨rfl, rfl, rfl, rfl, rfl, rfl, rfl, rfl, rfl, rfl, rfl, rfl, trivial⟩ ⟨rfl, rfl, rfl, rfl, rfl, rfl, rfl, trivial⟩ fun _ h => h⟩
  · obtain rfl : k = ln := by omega
    repeat'
     conv => whnf
     first
      | refine zA ?_ | refine zB ?_ | refine zC ?_ | refine zD ?_ | refine zE ?_ | refine zF ?_ | refine zG ?_ | refine zH ?_ | refine zJ ?_ | refine zI ?_ | refine splT ?_ | refine splF ?_ | refine splNot ?_
      | ((first | refine splIn (fun hc => ?_) (fun hc => ?_) | refine splD (fun hc => ?_) (fun hc => ?_) | refine splE (fun hc => ?_) (fun hc => ?_) | refine splNE (fun hc => ?_) (fun hc => ?_)) <;> first | (exfalso; omega) | (exfalso; dsimp only at hc; omega) | skip)
    all_goals first | (exfalso; omega) | skip
    exact ⟨rfl, Dis.mk2 [8, 10, 12, 14] (fun i hi => by simp at hi; rcases hi with rfl | rfl | rfl | rfl <;> exact ⟨_, rfl, rfl⟩) fun β w1 hb hw => ⟨((some ⟨β 8, 0, none⟩, β 9), (some ⟨β 10, 0, none⟩, β 11), (some ⟨β 12, 0, none⟩, β 13), (some ⟨β 14, 0, none⟩, β 15)), trivial, ⟨⟨_, rfl, rfl⟩, ⟨_, rfl, rfl⟩, ⟨_, rfl, rfl⟩, ⟨_, rfl, rfl⟩, ⟨_, rfl, rfl⟩, ⟨_, rfl, rfl⟩, ⟨_, rfl, rfl⟩, ⟨_, rfl, rfl⟩, ⟨_, rfl, rfl⟩, trivial⟩, ⟨⟨rfl, _, rfl, fun _ => rfl, fun _ _ h => h⟩, ⟨rfl, _, rfl, fun _ => rfl, fun _ _ h => h⟩, ⟨rfl, _, rfl, fun _ => rfl, fun _ _ h => h⟩, trivial⟩,
      fun w2 h2 hb2 => ⟨h2.1, h2.2.1, h2.2.2, Rd.of_owns (sz := 1) (f := iF) (fun _ => rfl) rfl (lA _).symm (hb2 8 (by simp) _ rfl), Rd.of_owns (sz := 1) (f := iF) (fun _ => rfl) rfl (lB _).symm (hb2 10 (by simp) _ rfl), Rd.of_owns (sz := 1) (f := iF) (fun _ => rfl) rfl (lC _).symm (hb2 12 (by simp) _ rfl), Rd.of_owns (sz := 1) (f := iF) (fun _ => rfl) rfl (by simp) (hb2 14 (by simp) _ rfl)⟩⟩⟩

set_option maxHeartbeats 16000000 in
set_option maxRecDepth 100000 in
theorem LevCn (po bo lo : Option Addr) (pn pc bn bc ln lc : Nat) (f0 f1 f2 : Int) (PP : List Int) (BB : List Bm) (LL GG : List Ld) (w : World) (hX : RigX ⟨po, pn, pc, bo, bn, bc, f0, f1, f2, lo, ln, lc⟩ PP BB LL w) (hr : rigOk f0 f1 f2 PP BB LL = true) (hGG : GG = LL.map gl) (n : Nat) (hn : LL.length = n) (bm pl : Int) (hbm : 0 ≤ bm ∧ bm ≤ 255) (y1 y2 : Option Addr × Nat) (h0 : GG = []) (A B C Z : List Int) (u v : Nat → Int) (hA : A = pz u n n) (hB : B = pz v n n) (hC : C = pz (fun i => u i + v i) n n) (hZ : Z = List.replicate n (0 : Int)) (hu : ∀ i, 0 ≤ u i ∧ u i ≤ 65535) (hv : ∀ i, 0 ≤ v i ∧ v i ≤ 65535) (ya yb yc yd : Option Addr × Nat)
    (hD : ∀ (tt : Nat) (m : Bm), BB[tt]? = some m → (m.lo + m.hi) % 2 = 0 → n < 20 → ∀ (yk : Option Addr × Nat), (∃ ad, yk.1 = some ad) → VC Try.prog (rest 10 (rest 3 (rest 4 body5))) ⟨402, [(4, .v (.int .u8 pl)), (5, .ptr 0 0), (11, .ptr 7 0), (17, .v (sV n yd)), (29, .v (sV BB.length yk)), (33, .v (iv tt))], [(0, .cells [.v (.slice po pn pc), .v (.slice bo bn bc), .v (iv f0), .v (iv f1), .v (iv f2), .v (.slice lo ln lc)] 48), (7, .cells [.v (sV PP.length y1), .v (sV BB.length y2), .v (iv f0), .v (iv f1), .v (iv f2), .v (.slice none 0 0)] 58)], 8, fun w2 => Below w.heap.size w w2 ∧ Rd 1 iF (sV PP.length y1) PP w2 ∧ Rd 8 Bm.cs (sV BB.length y2) BB w2 ∧ Rd 1 iF (sV n yd) Z w2 ∧ Rd 2 gF (sV BB.length yk) (bHg (frF BB GG) BB.length Z) w2, z0⟩ (endΦ env Try.f5 fun s σ => (∀ β, s.c β = .bool true) ∧ ∀ w', σ.h w' → Below w.heap.size w w')) :
    VC Try.prog (rest 3 (rest 4 body5)) ⟨402, [(3, .v (.int .u8 bm)), (4, .v (.int .u8 pl)), (5, .ptr 0 0), (11, .ptr 7 0), (13, .v (iv n)), (14, .v (sV n ya)), (15, .v (sV n yb)), (16, .v (sV n yc)), (17, .v (sV n yd))], [(0, .cells [.v (.slice po pn pc), .v (.slice bo bn bc), .v (iv f0), .v (iv f1), .v (iv f2), .v (.slice lo ln lc)] 48), (7, .cells [.v (sV PP.length y1), .v (sV BB.length y2), .v (iv f0), .v (iv f1), .v (iv f2), .v (.slice none 0 0)] 58)], 8, fun w2 => Below w.heap.size w w2 ∧ Rd 1 iF (sV PP.length y1) PP w2 ∧ Rd 8 Bm.cs (sV BB.length y2) BB w2 ∧ Rd 1 iF (sV n ya) A w2 ∧ Rd 1 iF (sV n yb) B w2 ∧ Rd 1 iF (sV n yc) C w2 ∧ Rd 1 iF (sV n yd) Z w2, z0⟩ (endΦ env Try.f5 fun s σ => (∀ β, s.c β = .bool true) ∧ ∀ w', σ.h w' → Below w.heap.size w w') := by
  have hri := rigOk_iff.1 hr
  have hm12 : BB.length ≤ 12 := hri.2.2.1
  have hl20 : LL.length ≤ 20 := hri.2.2.2.2.1
  have hP1 := hri.1
  have hpn := hX.pn
  have hbn := hX.bn
  have hln := hX.ln
  dsimp only at hpn hbn hln
  rw [hn] at hln
  subst hpn
  subst hbn
  subst hln
  have hrg : rigOk f0 f1 f2 PP BB GG = true := by rw [hGG]; exact rigOk_gl hr
  have hGn : GG.length = ln := by rw [hGG, List.length_map, hn]
  have lA : A.length = ln := by rw [hA, pz_len]
  have lB : B.length = ln := by rw [hB, pz_len]
  have lC : C.length = ln := by rw [hC, pz_len]
  have lZ : Z.length = ln := by rw [hZ, List.length_replicate]
  have pA : pulB ⟨po, PP.length, pc, bo, BB.length, bc, f0, f1, f2, lo, ln, lc⟩ GG A = true := by rw [hGG]; exact pul_gl hr ⟨rfl, rfl, rfl⟩ (by rw [lA, hn]) fun x hx => by rw [hA] at hx; have := pz_bd (by omega) hu _ _ x hx; omega
  have pB : pulB ⟨po, PP.length, pc, bo, BB.length, bc, f0, f1, f2, lo, ln, lc⟩ GG B = true := by rw [hGG]; exact pul_gl hr ⟨rfl, rfl, rfl⟩ (by rw [lB, hn]) fun x hx => by rw [hB] at hx; have := pz_bd (by omega) hv _ _ x hx; omega
  have pC : pulB ⟨po, PP.length, pc, bo, BB.length, bc, f0, f1, f2, lo, ln, lc⟩ GG C = true := by rw [hGG]; exact pul_gl hr ⟨rfl, rfl, rfl⟩ (by rw [lC, hn]) fun x hx => by rw [hC] at hx; have := pz_bd (f := fun i => u i + v i) (B := 131070) (by omega) (fun i => by have := hu i; have := hv i; omega) _ _ x hx; omega
  have pZ : pulB ⟨po, PP.length, pc, bo, BB.length, bc, f0, f1, f2, lo, ln, lc⟩ GG Z = true := by rw [hGG]; exact pul_gl hr ⟨rfl, rfl, rfl⟩ (by rw [lZ, hn]) fun x hx => by rw [hZ] at hx; rw [List.eq_of_mem_replicate hx]; omega
  have hQ := frF_Q hrg
  have hPT : ∀ k, k < PP.length → ∃ a b c d, (bPt (frF BB GG) PP.length A)[k]? = some a ∧ (bPt (frF BB GG) PP.length B)[k]? = some b ∧ (bPt (frF BB GG) PP.length C)[k]? = some c ∧ (bPt (frF BB GG) PP.length Z)[k]? = some d ∧ a + b = c + d ∧ (-400000000000000000 ≤ a ∧ a ≤ 400000000000000000) ∧ (-400000000000000000 ≤ b ∧ b ≤ 400000000000000000) ∧ (-400000000000000000 ≤ c ∧ c ≤ 400000000000000000) ∧ (-400000000000000000 ≤ d ∧ d ≤ 400000000000000000) := fun k hk => by
    refine ⟨_, _, _, _, rng_at _ hk, rng_at _ hk, rng_at _ hk, rng_at _ hk, ?_⟩
    rw [hA, hB, hC, hZ]
    exact lev_row hrg (by omega) hu hv (hQ.1 k)
  have hHG : ∀ k, k < BB.length → ∃ a b c d a' b' c' d', (bHg (frF BB GG) BB.length A)[k]? = some (a, a') ∧ (bHg (frF BB GG) BB.length B)[k]? = some (b, b') ∧ (bHg (frF BB GG) BB.length C)[k]? = some (c, c') ∧ (bHg (frF BB GG) BB.length Z)[k]? = some (d, d') ∧ (a + b = c + d ∧ (-400000000000000000 ≤ a ∧ a ≤ 400000000000000000) ∧ (-400000000000000000 ≤ b ∧ b ≤ 400000000000000000) ∧ (-400000000000000000 ≤ c ∧ c ≤ 400000000000000000) ∧ (-400000000000000000 ≤ d ∧ d ≤ 400000000000000000)) ∧
      (a' + b' = c' + d' ∧ (-400000000000000000 ≤ a' ∧ a' ≤ 400000000000000000) ∧ (-400000000000000000 ≤ b' ∧ b' ≤ 400000000000000000) ∧ (-400000000000000000 ≤ c' ∧ c' ≤ 400000000000000000) ∧ (-400000000000000000 ≤ d' ∧ d' ≤ 400000000000000000)) := fun k hk => by
    have at' := fun D : List Int => rng_at (fun j => (dotR ((frF BB GG).h j 0) D D.length, dotR ((frF BB GG).h j 1) D D.length)) hk
    refine ⟨_, _, _, _, _, _, _, _, at' A, at' B, at' C, at' Z, ?_⟩
    rw [hA, hB, hC, hZ]
    exact ⟨lev_row hrg (by omega) hu hv (hQ.2 k 0), lev_row hrg (by omega) hu hv (hQ.2 k 1)⟩
  clear hQ
  have bl : BB.length ≤ 1000000 := by omega
  have h29A := fun (y : (Option Addr × Nat) × (Option Addr × Nat) × (Option Addr × Nat)) (o : Option Addr) (c : Nat) (w' : World) (h : nrH PP BB GG y w') (hP : Rd 1 iF (.slice o A.length c) A w') => Bears_nr PP BB GG f0 f1 f2 ⟨po, PP.length, pc, bo, BB.length, bc, f0, f1, f2, lo, ln, lc⟩ hrg ⟨rfl, rfl, rfl⟩ A pA y o c w' h bl hP
  have h29B := fun (y : (Option Addr × Nat) × (Option Addr × Nat) × (Option Addr × Nat)) (o : Option Addr) (c : Nat) (w' : World) (h : nrH PP BB GG y w') (hP : Rd 1 iF (.slice o B.length c) B w') => Bears_nr PP BB GG f0 f1 f2 ⟨po, PP.length, pc, bo, BB.length, bc, f0, f1, f2, lo, ln, lc⟩ hrg ⟨rfl, rfl, rfl⟩ B pB y o c w' h bl hP
  have h29C := fun (y : (Option Addr × Nat) × (Option Addr × Nat) × (Option Addr × Nat)) (o : Option Addr) (c : Nat) (w' : World) (h : nrH PP BB GG y w') (hP : Rd 1 iF (.slice o C.length c) C w') => Bears_nr PP BB GG f0 f1 f2 ⟨po, PP.length, pc, bo, BB.length, bc, f0, f1, f2, lo, ln, lc⟩ hrg ⟨rfl, rfl, rfl⟩ C pC y o c w' h bl hP
  have h29Z := fun (y : (Option Addr × Nat) × (Option Addr × Nat) × (Option Addr × Nat)) (o : Option Addr) (c : Nat) (w' : World) (h : nrH PP BB GG y w') (hP : Rd 1 iF (.slice o Z.length c) Z w') => Bears_nr PP BB GG f0 f1 f2 ⟨po, PP.length, pc, bo, BB.length, bc, f0, f1, f2, lo, ln, lc⟩ hrg ⟨rfl, rfl, rfl⟩ Z pZ y o c w' h bl hP
  have hXb := hX.b
  dsimp only at hXb
  generalize bPt (frF BB GG) PP.length A = PA at *
  generalize hHA : bHg (frF BB GG) BB.length A = HA at *
  generalize bPt (frF BB GG) PP.length B = PB at *
  generalize hHB : bHg (frF BB GG) BB.length B = HB at *
  generalize bPt (frF BB GG) PP.length C = PC at *
  generalize hHC : bHg (frF BB GG) BB.length C = HC at *
  generalize bPt (frF BB GG) PP.length Z = PZ at *
  generalize hHZ : bHg (frF BB GG) BB.length Z = HZ at *
  simp only [nrV, lA, h0, List.length_nil] at h29A
  simp only [nrV, lB, h0, List.length_nil] at h29B
  simp only [nrV, lC, h0, List.length_nil] at h29C
  simp only [nrV, lZ, h0, List.length_nil] at h29Z
  refine VC.cutH env mixed 10 8 (fun x : Nat × (Option Addr × Nat) => [(4, .v (.int .u8 pl)), (5, .ptr 0 0), (11, .ptr 7 0), (17, .v (sV ln yd)), (29, .v (sV BB.length x.2)), (33, .v (iv x.1))]) (fun _ => [(0, .cells [.v (.slice po PP.length pc), .v (.slice bo BB.length bc), .v (iv f0), .v (iv f1), .v (iv f2), .v (.slice lo ln lc)] 48), (7, .cells [.v (sV PP.length y1), .v (sV BB.length y2), .v (iv f0), .v (iv f1), .v (iv f2), .v (.slice none 0 0)] 58)]) (fun x w2 => Below w.heap.size w w2 ∧ Rd 1 iF (sV PP.length y1) PP w2 ∧ Rd 8 Bm.cs (sV BB.length y2) BB w2 ∧ Rd 1 iF (sV ln yd) Z w2 ∧ Rd 2 gF (sV BB.length x.2) HZ w2) (fun x => (∃ m, BB[x.1]? = some m ∧ (m.lo + m.hi) % 2 = 0) ∧ ln < 20 ∧ ∃ ad, x.2.1 = some ad) (fun _ _ => ⟨rfl, rfl⟩) ?_ (fun x ⟨⟨m, h1, h2⟩, h3, h4⟩ => hD x.1 m h1 h2 h3 x.2 h4)
  clear hD
  obtain ⟨ya1, ya2⟩ := ya
  obtain ⟨yb1, yb2⟩ := yb
  obtain ⟨yc1, yc2⟩ := yc
  obtain ⟨yd1, yd2⟩ := yd
  obtain ⟨y11, y12⟩ := y1
  obtain ⟨y21, y22⟩ := y2
  repeat'
   conv => whnf
   first
    | refine zA ?_ | refine zB ?_ | refine zC ?_ | refine zD ?_ | refine zE ?_ | refine zF ?_ | refine zG ?_ | refine zH ?_ | refine zJ ?_ | refine zI ?_ | refine splT ?_ | refine splF ?_ | refine splNot ?_
    | ((first | refine splIn (fun hc => ?_) (fun hc => ?_) | refine splD (fun hc => ?_) (fun hc => ?_) | refine splE (fun hc => ?_) (fun hc => ?_) | refine splNE (fun hc => ?_) (fun hc => ?_)) <;> first | (exfalso; omega) | (exfalso; dsimp only at hc; omega) | skip)
    | ((with_reducible show CallEv _ _ 29 [_, .v (sV _ (ya1, ya2))] _ _ _ _); refine callF [] (fun z : YS PA × YS HA => .tuple #[sV PP.length z.1.1, sV BB.length z.2.1, iv 0]) (fun z w2 => Rd 1 iF (sV PP.length z.1.1) PA w2 ∧ Rd 2 gF (sV BB.length z.2.1) HA w2) (fun β w' hbk hbw => h29A ((y11, y12), (y21, y22), ((none, 0))) _ _ w' ⟨hbw.2.1, hbw.2.2.1, (.inl ⟨rfl, rfl⟩)⟩ hbw.2.2.2.1) ?_; intro z; obtain ⟨⟨⟨a1, a2⟩, ha1⟩, ⟨⟨a3, a4⟩, ha3⟩⟩ := z; dsimp only at ha1 ha3 ⊢)
    | ((with_reducible show CallEv _ _ 29 [_, .v (sV _ (yb1, yb2))] _ _ _ _); refine callF [] (fun z : YS PB × YS HB => .tuple #[sV PP.length z.1.1, sV BB.length z.2.1, iv 0]) (fun z w2 => Rd 1 iF (sV PP.length z.1.1) PB w2 ∧ Rd 2 gF (sV BB.length z.2.1) HB w2) (fun β w' hbk hbw => h29B ((y11, y12), (y21, y22), ((none, 0))) _ _ w' ⟨hbw.1.2.1, hbw.1.2.2.1, (.inl ⟨rfl, rfl⟩)⟩ hbw.1.2.2.2.2.1) ?_; intro z; obtain ⟨⟨⟨b1, b2⟩, hb1⟩, ⟨⟨b3, b4⟩, hb3⟩⟩ := z; dsimp only at hb1 hb3 ⊢)
    | ((with_reducible show CallEv _ _ 29 [_, .v (sV _ (yc1, yc2))] _ _ _ _); refine callF [] (fun z : YS PC × YS HC => .tuple #[sV PP.length z.1.1, sV BB.length z.2.1, iv 0]) (fun z w2 => Rd 1 iF (sV PP.length z.1.1) PC w2 ∧ Rd 2 gF (sV BB.length z.2.1) HC w2) (fun β w' hbk hbw => h29C ((y11, y12), (y21, y22), ((none, 0))) _ _ w' ⟨hbw.1.1.2.1, hbw.1.1.2.2.1, (.inl ⟨rfl, rfl⟩)⟩ hbw.1.1.2.2.2.2.2.1) ?_; intro z; obtain ⟨⟨⟨c1, c2⟩, hc1⟩, ⟨⟨c3, c4⟩, hc3⟩⟩ := z; dsimp only at hc1 hc3 ⊢)
    | ((with_reducible show CallEv _ _ 29 [_, .v (sV _ (yd1, yd2))] _ _ _ _); refine callF [] (fun z : YS PZ × YS HZ => .tuple #[sV PP.length z.1.1, sV BB.length z.2.1, iv 0]) (fun z w2 => Rd 1 iF (sV PP.length z.1.1) PZ w2 ∧ Rd 2 gF (sV BB.length z.2.1) HZ w2) (fun β w' hbk hbw => h29Z ((y11, y12), (y21, y22), ((none, 0))) _ _ w' ⟨hbw.1.1.1.2.1, hbw.1.1.1.2.2.1, (.inl ⟨rfl, rfl⟩)⟩ hbw.1.1.1.2.2.2.2.2.2) ?_; intro z; obtain ⟨⟨⟨z1, z2⟩, hz1⟩, ⟨⟨z3, z4⟩, hz3⟩⟩ := z; dsimp only at hz1 hz3 ⊢)
  all_goals first | (exfalso; omega) | skip
  obtain ⟨ap, rfl⟩ := ha1.resolve_left fun hc => by obtain ⟨a, b, c, d, q1, q2, q3, q4, _⟩ := hPT 0 (by omega); rw [hc] at q1; simp at q1
  obtain ⟨bp, rfl⟩ := hb1.resolve_left fun hc => by obtain ⟨a, b, c, d, q1, q2, q3, q4, _⟩ := hPT 0 (by omega); rw [hc] at q2; simp at q2
  obtain ⟨cp, rfl⟩ := hc1.resolve_left fun hc => by obtain ⟨a, b, c, d, q1, q2, q3, q4, _⟩ := hPT 0 (by omega); rw [hc] at q3; simp at q3
  obtain ⟨zp, rfl⟩ := hz1.resolve_left fun hc => by obtain ⟨a, b, c, d, q1, q2, q3, q4, _⟩ := hPT 0 (by omega); rw [hc] at q4; simp at q4
  refine loopN 8 (fun k : Nat => [(3, .v (.int .u8 bm)), (4, .v (.int .u8 pl)), (5, .ptr 0 0), (11, .ptr 7 0), (13, .v (iv ln)), (17, .v (sV ln (yd1, yd2))), (20, .v (sV BB.length (a3, a4))), (23, .v (sV BB.length (b3, b4))), (26, .v (sV BB.length (c3, c4))), (29, .v (sV BB.length (z3, z4))), (19, .v (sV PP.length (some ap, a2))), (22, .v (sV PP.length (some bp, b2))), (25, .v (sV PP.length (some cp, c2))), (28, .v (sV PP.length (some zp, z2))), (31, .v (iv k))]) (fun _ => [(0, .cells [.v (.slice po PP.length pc), .v (.slice bo BB.length bc), .v (iv f0), .v (iv f1), .v (iv f2), .v (.slice lo ln lc)] 48), (7, .cells [.v (sV PP.length (y11, y12)), .v (sV BB.length (y21, y22)), .v (iv f0), .v (iv f1), .v (iv f2), .v (.slice none 0 0)] 58)]) (fun k => k ≤ PP.length) (fun k => PP.length - k) 0 (Nat.zero_le _) ⟨rfl, rfl, rfl, rfl, rfl, rfl, rfl, rfl, rfl, rfl, rfl, rfl, rfl, rfl, rfl, trivial⟩ ⟨rfl, rfl, trivial⟩ (fun _ _ => ⟨rfl, rfl⟩) ?_
  intro k hk
  rcases Nat.lt_or_ge k PP.length with hkl | hkl
  · obtain ⟨a, b, c, d, q1, q2, q3, q4, q5, q6, q7, q8, q9⟩ := hPT k hkl
    repeat'
     conv => whnf
     first
      | refine zA ?_ | refine zB ?_ | refine zC ?_ | refine zD ?_ | refine zE ?_ | refine zF ?_ | refine zG ?_ | refine zH ?_ | refine zJ ?_ | refine zI ?_ | refine splT ?_ | refine splF ?_ | refine splNot ?_
      | ((first | refine splIn (fun hc => ?_) (fun hc => ?_) | refine splD (fun hc => ?_) (fun hc => ?_) | refine splE (fun hc => ?_) (fun hc => ?_) | refine splNE (fun hc => ?_) (fun hc => ?_)) <;> first | (exfalso; omega) | (exfalso; dsimp only at hc; omega) | skip)
      | refine Exists.intro (α := List Value) [iv a] ⟨⟨rfl, fun w' hw' => rd_ati hw'.1.1.1.2.1 q1⟩, ?_⟩
      | refine Exists.intro (α := List Value) [iv b] ⟨⟨rfl, fun w' hw' => rd_ati hw'.1.1.2.1 q2⟩, ?_⟩
      | refine Exists.intro (α := List Value) [iv c] ⟨⟨rfl, fun w' hw' => rd_ati hw'.1.2.1 q3⟩, ?_⟩
      | refine Exists.intro (α := List Value) [iv d] ⟨⟨rfl, fun w' hw' => rd_ati hw'.2.1 q4⟩, ?_⟩
    all_goals first | (exfalso; omega) | exact ⟨k + 1, by omega, by omega, Ent.weak rfl ⟨rfl, rfl, rfl, rfl, rfl, rfl, rfl, rfl, rfl, rfl, rfl, rfl, rfl, rfl, rfl, trivial⟩ ⟨rfl, rfl, trivial⟩ fun _ h => h⟩
  obtain rfl : k = PP.length := by omega
  clear hPT
  repeat'
   conv => whnf
   first
    | refine zA ?_ | refine zB ?_ | refine zC ?_ | refine zD ?_ | refine zE ?_ | refine zF ?_ | refine zG ?_ | refine zH ?_ | refine zJ ?_ | refine zI ?_ | refine splT ?_ | refine splF ?_ | refine splNot ?_
    | ((first | refine splIn (fun hc => ?_) (fun hc => ?_) | refine splD (fun hc => ?_) (fun hc => ?_) | refine splE (fun hc => ?_) (fun hc => ?_) | refine splNE (fun hc => ?_) (fun hc => ?_)) <;> first | (exfalso; omega) | (exfalso; dsimp only at hc; omega) | skip)
  all_goals first | (exfalso; omega) | skip
  refine loopN 8 (fun k : Nat => [(3, .v (.int .u8 bm)), (4, .v (.int .u8 pl)), (5, .ptr 0 0), (11, .ptr 7 0), (13, .v (iv ln)), (17, .v (sV ln (yd1, yd2))), (20, .v (sV BB.length (a3, a4))), (23, .v (sV BB.length (b3, b4))), (26, .v (sV BB.length (c3, c4))), (29, .v (sV BB.length (z3, z4))), (32, .v (iv k))]) (fun _ => [(0, .cells [.v (.slice po PP.length pc), .v (.slice bo BB.length bc), .v (iv f0), .v (iv f1), .v (iv f2), .v (.slice lo ln lc)] 48), (7, .cells [.v (sV PP.length (y11, y12)), .v (sV BB.length (y21, y22)), .v (iv f0), .v (iv f1), .v (iv f2), .v (.slice none 0 0)] 58)]) (fun k => k ≤ BB.length) (fun k => BB.length - k) 0 (Nat.zero_le _) ⟨rfl, rfl, rfl, rfl, rfl, rfl, rfl, rfl, rfl, rfl, rfl, trivial⟩ ⟨rfl, rfl, trivial⟩ (fun _ _ => ⟨rfl, rfl⟩) ?_
  clear hk hkl
  intro k hk
  rcases Nat.lt_or_ge k BB.length with hkl | hkl
  · obtain ⟨a, b, c, d, a', b', c', d', q1, q2, q3, q4, q5, q6⟩ := hHG k hkl
    obtain ⟨ah, rfl⟩ := ha3.resolve_left fun hc => by rw [hc] at q1; simp at q1
    obtain ⟨bh, rfl⟩ := hb3.resolve_left fun hc => by rw [hc] at q2; simp at q2
    obtain ⟨ch, rfl⟩ := hc3.resolve_left fun hc => by rw [hc] at q3; simp at q3
    obtain ⟨zh, rfl⟩ := hz3.resolve_left fun hc => by rw [hc] at q4; simp at q4
    repeat'
     conv => whnf
     first
      | refine zA ?_ | refine zB ?_ | refine zC ?_ | refine zD ?_ | refine zE ?_ | refine zF ?_ | refine zG ?_ | refine zH ?_ | refine zJ ?_ | refine zI ?_ | refine splT ?_ | refine splF ?_ | refine splNot ?_
      | ((first | refine splIn (fun hc => ?_) (fun hc => ?_) | refine splD (fun hc => ?_) (fun hc => ?_) | refine splE (fun hc => ?_) (fun hc => ?_) | refine splNE (fun hc => ?_) (fun hc => ?_)) <;> first | (exfalso; omega) | (exfalso; dsimp only at hc; omega) | skip)
      | refine idxP env rfl rfl rfl rfl (And.intro (by omega) (by omega)) ?_
      | refine Exists.intro (α := List Value) [iv a] ⟨⟨rfl, fun w' hw' => rd_fld hw'.1.1.1.2.2 q1 0 (iv a) rfl⟩, ?_⟩
      | refine Exists.intro (α := List Value) [iv a'] ⟨⟨rfl, fun w' hw' => rd_fld hw'.1.1.1.2.2 q1 1 (iv a') rfl⟩, ?_⟩
      | refine Exists.intro (α := List Value) [iv b] ⟨⟨rfl, fun w' hw' => rd_fld hw'.1.1.2.2 q2 0 (iv b) rfl⟩, ?_⟩
      | refine Exists.intro (α := List Value) [iv b'] ⟨⟨rfl, fun w' hw' => rd_fld hw'.1.1.2.2 q2 1 (iv b') rfl⟩, ?_⟩
      | refine Exists.intro (α := List Value) [iv c] ⟨⟨rfl, fun w' hw' => rd_fld hw'.1.2.2 q3 0 (iv c) rfl⟩, ?_⟩
      | refine Exists.intro (α := List Value) [iv c'] ⟨⟨rfl, fun w' hw' => rd_fld hw'.1.2.2 q3 1 (iv c') rfl⟩, ?_⟩
      | refine Exists.intro (α := List Value) [iv d] ⟨⟨rfl, fun w' hw' => rd_fld hw'.2.2 q4 0 (iv d) rfl⟩, ?_⟩
      | refine Exists.intro (α := List Value) [iv d'] ⟨⟨rfl, fun w' hw' => rd_fld hw'.2.2 q4 1 (iv d') rfl⟩, ?_⟩
    all_goals first | (exfalso; omega) | exact ⟨k + 1, by omega, by omega, Ent.weak rfl ⟨rfl, rfl, rfl, rfl, rfl, rfl, rfl, rfl, rfl, rfl, rfl, trivial⟩ ⟨rfl, rfl, trivial⟩ fun _ h => h⟩
  obtain rfl : k = BB.length := by omega
  by_cases hout : BB.length = 0 ∨ ln = 20
  · rcases hout with hb0 | rfl
    all_goals skip
    repeat'
     conv => whnf
     first
      | refine zA ?_ | refine zB ?_ | refine zC ?_ | refine zD ?_ | refine zE ?_ | refine zF ?_ | refine zG ?_ | refine zH ?_ | refine zJ ?_ | refine zI ?_ | refine splT ?_ | refine splF ?_ | refine splNot ?_
      | ((first | refine splIn (fun hc => ?_) (fun hc => ?_) | refine splD (fun hc => ?_) (fun hc => ?_) | refine splE (fun hc => ?_) (fun hc => ?_) | refine splNE (fun hc => ?_) (fun hc => ?_)) <;> first | (exfalso; omega) | (exfalso; dsimp only at hc; omega) | skip)
      | ((with_reducible show CallEv _ _ 16 _ _ _ _ _); refine callE (k := 16) (fun β w' hbw => awake_ok _) ?_)
    all_goals first | (exfalso; omega) | exact ⟨fun β => rfl, fun w' h => h.1.1.1.1.1⟩
  obtain ⟨tt, htt⟩ : ∃ tt : Nat, bm % (BB.length : Int) = tt := ⟨(bm % (BB.length : Int)).toNat, by have := Int.emod_nonneg bm (b := (BB.length : Int)) (by omega); omega⟩
  have htl : tt < BB.length := by have := Int.emod_lt_of_pos bm (b := (BB.length : Int)) (by omega); omega
  obtain ⟨m, hm⟩ : ∃ m, BB[tt]? = some m := ⟨_, List.getElem?_eq_getElem htl⟩
  have hmok := bmOk_iff.1 (bm_at hr hm)
  obtain ⟨_, adb, rfl, _⟩ := hXb.ptr (by omega)
  have g0 := fun (w' : World) (hb : Below w.heap.size w w') => rd_fld (hXb.below hb) hm 0 (iv m.lo) rfl
  have g1 := fun (w' : World) (hb : Below w.heap.size w w') => rd_fld (hXb.below hb) hm 1 (iv m.hi) rfl
  obtain ⟨zh, rfl⟩ := hz3.resolve_left fun hc => by obtain ⟨a, b, c, d, a', b', c', d', q1, q2, q3, q4, _⟩ := hHG tt htl; rw [hc] at q4; simp at q4
  have hlh1 : 0 ≤ m.lo + m.hi ∧ m.lo + m.hi ≤ 120 := by omega
  obtain ⟨m1, hm1⟩ : ∃ x, m.lo = x := ⟨_, rfl⟩
  obtain ⟨m2, hm2⟩ : ∃ x, m.hi = x := ⟨_, rfl⟩
  have hpr : (m.lo + m.hi) % 2 = (m1 + m2) % 2 := by rw [hm1, hm2]
  rw [hm1] at g0 hmok hlh1
  rw [hm2] at g1 hmok hlh1
  clear hHG
  by_cases hpar : (m1 + m2) % 2 = 0
  all_goals skip
  repeat'
   conv => whnf
   first
    | refine zA ?_ | refine zB ?_ | refine zC ?_ | refine zD ?_ | refine zE ?_ | refine zF ?_ | refine zG ?_ | refine zH ?_ | refine zJ ?_ | refine zI ?_ | refine splT ?_ | refine splF ?_ | refine splNot ?_
    | ((first | refine splIn (fun hc => ?_) (fun hc => ?_) | refine splD (fun hc => ?_) (fun hc => ?_) | refine splE (fun hc => ?_) (fun hc => ?_) | refine splNE (fun hc => ?_) (fun hc => ?_)) <;> first | (exfalso; omega) | (exfalso; dsimp only at hc; omega) | skip)
    | refine Exists.intro (α := Value) (iv bm) ⟨cv8 bm hbm, ?_⟩
    | (refine remE (by omega) (by omega) ?_; rw [htt])
    | refine Exists.intro (α := List Value) [iv m1] ⟨⟨rfl, fun w' hw' => g0 w' hw'.1.1.1.1.1⟩, ?_⟩
    | refine Exists.intro (α := List Value) [iv m2] ⟨⟨rfl, fun w' hw' => g1 w' hw'.1.1.1.1.1⟩, ?_⟩
    | refine remE (by omega) (by omega) ?_
    | ((with_reducible show CallEv _ _ 16 _ _ _ _ _); refine callE (k := 16) (fun β w' hbw => awake_ok _) ?_)
  all_goals first | (exfalso; omega) | exact ⟨fun β => rfl, fun w' h => h.1.1.1.1.1⟩ | exact ⟨rfl, (tt, (some zh, z4)), ⟨⟨m, hm, by rw [hpr]; exact hpar⟩, by omega, _, rfl⟩, Ent.weak rfl ⟨rfl, rfl, rfl, rfl, rfl, rfl, trivial⟩ ⟨rfl, rfl, trivial⟩ fun _ h => ⟨h.1.1.1.1.1, h.1.1.1.1.2.1, h.1.1.1.1.2.2.1, h.1.1.1.1.2.2.2.2.2.2, h.2.2⟩⟩

set_option maxHeartbeats 16000000 in
set_option maxRecDepth 100000 in
theorem LevCc (po bo lo : Option Addr) (pn pc bn bc ln lc : Nat) (f0 f1 f2 : Int) (PP : List Int) (BB : List Bm) (LL GG : List Ld) (w : World) (hX : RigX ⟨po, pn, pc, bo, bn, bc, f0, f1, f2, lo, ln, lc⟩ PP BB LL w) (hr : rigOk f0 f1 f2 PP BB LL = true) (hGG : GG = LL.map gl) (n : Nat) (hn : LL.length = n) (bm pl : Int) (hbm : 0 ≤ bm ∧ bm ≤ 255) (y1 y2 : Option Addr × Nat)  (A B C Z : List Int) (u v : Nat → Int) (hA : A = pz u n n) (hB : B = pz v n n) (hC : C = pz (fun i => u i + v i) n n) (hZ : Z = List.replicate n (0 : Int)) (hu : ∀ i, 0 ≤ u i ∧ u i ≤ 65535) (hv : ∀ i, 0 ≤ v i ∧ v i ≤ 65535) (ya yb yc yd : Option Addr × Nat)
    (hD : ∀ (tt : Nat) (m : Bm), BB[tt]? = some m → (m.lo + m.hi) % 2 = 0 → n < 20 → ∀ (yk : Option Addr × Nat), (∃ ad, yk.1 = some ad) → VC Try.prog (rest 10 (rest 3 (rest 4 body5))) ⟨402, [(4, .v (.int .u8 pl)), (5, .ptr 0 0), (11, .ptr 7 0), (17, .v (sV n yd)), (29, .v (sV BB.length yk)), (33, .v (iv tt))], [(0, .cells [.v (.slice po pn pc), .v (.slice bo bn bc), .v (iv f0), .v (iv f1), .v (iv f2), .v (.slice lo ln lc)] 48), (7, .cells [.v (sV PP.length y1), .v (sV BB.length y2), .v (iv f0), .v (iv f1), .v (iv f2), .os 5 6 n] 58), (5, .own 6 n 5 (GG.flatMap Ld.cs) 69)], 8, fun w2 => Below w.heap.size w w2 ∧ Rd 1 iF (sV PP.length y1) PP w2 ∧ Rd 8 Bm.cs (sV BB.length y2) BB w2 ∧ Rd 1 iF (sV n yd) Z w2 ∧ Rd 2 gF (sV BB.length yk) (bHg (frF BB GG) BB.length Z) w2, z0⟩ (endΦ env Try.f5 fun s σ => (∀ β, s.c β = .bool true) ∧ ∀ w', σ.h w' → Below w.heap.size w w')) :
    VC Try.prog (rest 3 (rest 4 body5)) ⟨402, [(3, .v (.int .u8 bm)), (4, .v (.int .u8 pl)), (5, .ptr 0 0), (11, .ptr 7 0), (13, .v (iv n)), (14, .v (sV n ya)), (15, .v (sV n yb)), (16, .v (sV n yc)), (17, .v (sV n yd))], [(0, .cells [.v (.slice po pn pc), .v (.slice bo bn bc), .v (iv f0), .v (iv f1), .v (iv f2), .v (.slice lo ln lc)] 48), (7, .cells [.v (sV PP.length y1), .v (sV BB.length y2), .v (iv f0), .v (iv f1), .v (iv f2), .os 5 6 n] 58), (5, .own 6 n 5 (GG.flatMap Ld.cs) 69)], 8, fun w2 => Below w.heap.size w w2 ∧ Rd 1 iF (sV PP.length y1) PP w2 ∧ Rd 8 Bm.cs (sV BB.length y2) BB w2 ∧ Rd 1 iF (sV n ya) A w2 ∧ Rd 1 iF (sV n yb) B w2 ∧ Rd 1 iF (sV n yc) C w2 ∧ Rd 1 iF (sV n yd) Z w2, z0⟩ (endΦ env Try.f5 fun s σ => (∀ β, s.c β = .bool true) ∧ ∀ w', σ.h w' → Below w.heap.size w w') := by
  have hri := rigOk_iff.1 hr
  have hm12 : BB.length ≤ 12 := hri.2.2.1
  have hl20 : LL.length ≤ 20 := hri.2.2.2.2.1
  have hP1 := hri.1
  have hpn := hX.pn
  have hbn := hX.bn
  have hln := hX.ln
  dsimp only at hpn hbn hln
  rw [hn] at hln
  subst hpn
  subst hbn
  subst hln
  have hrg : rigOk f0 f1 f2 PP BB GG = true := by rw [hGG]; exact rigOk_gl hr
  have hGn : GG.length = ln := by rw [hGG, List.length_map, hn]
  have lA : A.length = ln := by rw [hA, pz_len]
  have lB : B.length = ln := by rw [hB, pz_len]
  have lC : C.length = ln := by rw [hC, pz_len]
  have lZ : Z.length = ln := by rw [hZ, List.length_replicate]
  have pA : pulB ⟨po, PP.length, pc, bo, BB.length, bc, f0, f1, f2, lo, ln, lc⟩ GG A = true := by rw [hGG]; exact pul_gl hr ⟨rfl, rfl, rfl⟩ (by rw [lA, hn]) fun x hx => by rw [hA] at hx; have := pz_bd (by omega) hu _ _ x hx; omega
  have pB : pulB ⟨po, PP.length, pc, bo, BB.length, bc, f0, f1, f2, lo, ln, lc⟩ GG B = true := by rw [hGG]; exact pul_gl hr ⟨rfl, rfl, rfl⟩ (by rw [lB, hn]) fun x hx => by rw [hB] at hx; have := pz_bd (by omega) hv _ _ x hx; omega
  have pC : pulB ⟨po, PP.length, pc, bo, BB.length, bc, f0, f1, f2, lo, ln, lc⟩ GG C = true := by rw [hGG]; exact pul_gl hr ⟨rfl, rfl, rfl⟩ (by rw [lC, hn]) fun x hx => by rw [hC] at hx; have := pz_bd (f := fun i => u i + v i) (B := 131070) (by omega) (fun i => by have := hu i; have := hv i; omega) _ _ x hx; omega
  have pZ : pulB ⟨po, PP.length, pc, bo, BB.length, bc, f0, f1, f2, lo, ln, lc⟩ GG Z = true := by rw [hGG]; exact pul_gl hr ⟨rfl, rfl, rfl⟩ (by rw [lZ, hn]) fun x hx => by rw [hZ] at hx; rw [List.eq_of_mem_replicate hx]; omega
  have hQ := frF_Q hrg
  have hPT : ∀ k, k < PP.length → ∃ a b c d, (bPt (frF BB GG) PP.length A)[k]? = some a ∧ (bPt (frF BB GG) PP.length B)[k]? = some b ∧ (bPt (frF BB GG) PP.length C)[k]? = some c ∧ (bPt (frF BB GG) PP.length Z)[k]? = some d ∧ a + b = c + d ∧ (-400000000000000000 ≤ a ∧ a ≤ 400000000000000000) ∧ (-400000000000000000 ≤ b ∧ b ≤ 400000000000000000) ∧ (-400000000000000000 ≤ c ∧ c ≤ 400000000000000000) ∧ (-400000000000000000 ≤ d ∧ d ≤ 400000000000000000) := fun k hk => by
    refine ⟨_, _, _, _, rng_at _ hk, rng_at _ hk, rng_at _ hk, rng_at _ hk, ?_⟩
    rw [hA, hB, hC, hZ]
    exact lev_row hrg (by omega) hu hv (hQ.1 k)
  have hHG : ∀ k, k < BB.length → ∃ a b c d a' b' c' d', (bHg (frF BB GG) BB.length A)[k]? = some (a, a') ∧ (bHg (frF BB GG) BB.length B)[k]? = some (b, b') ∧ (bHg (frF BB GG) BB.length C)[k]? = some (c, c') ∧ (bHg (frF BB GG) BB.length Z)[k]? = some (d, d') ∧ (a + b = c + d ∧ (-400000000000000000 ≤ a ∧ a ≤ 400000000000000000) ∧ (-400000000000000000 ≤ b ∧ b ≤ 400000000000000000) ∧ (-400000000000000000 ≤ c ∧ c ≤ 400000000000000000) ∧ (-400000000000000000 ≤ d ∧ d ≤ 400000000000000000)) ∧
      (a' + b' = c' + d' ∧ (-400000000000000000 ≤ a' ∧ a' ≤ 400000000000000000) ∧ (-400000000000000000 ≤ b' ∧ b' ≤ 400000000000000000) ∧ (-400000000000000000 ≤ c' ∧ c' ≤ 400000000000000000) ∧ (-400000000000000000 ≤ d' ∧ d' ≤ 400000000000000000)) := fun k hk => by
    have at' := fun D : List Int => rng_at (fun j => (dotR ((frF BB GG).h j 0) D D.length, dotR ((frF BB GG).h j 1) D D.length)) hk
    refine ⟨_, _, _, _, _, _, _, _, at' A, at' B, at' C, at' Z, ?_⟩
    rw [hA, hB, hC, hZ]
    exact ⟨lev_row hrg (by omega) hu hv (hQ.2 k 0), lev_row hrg (by omega) hu hv (hQ.2 k 1)⟩
  clear hQ
  have bl : BB.length ≤ 1000000 := by omega
  have h29A := fun (y : (Option Addr × Nat) × (Option Addr × Nat) × (Option Addr × Nat)) (o : Option Addr) (c : Nat) (w' : World) (h : nrH PP BB GG y w') (hP : Rd 1 iF (.slice o A.length c) A w') => Bears_nr PP BB GG f0 f1 f2 ⟨po, PP.length, pc, bo, BB.length, bc, f0, f1, f2, lo, ln, lc⟩ hrg ⟨rfl, rfl, rfl⟩ A pA y o c w' h bl hP
  have h29B := fun (y : (Option Addr × Nat) × (Option Addr × Nat) × (Option Addr × Nat)) (o : Option Addr) (c : Nat) (w' : World) (h : nrH PP BB GG y w') (hP : Rd 1 iF (.slice o B.length c) B w') => Bears_nr PP BB GG f0 f1 f2 ⟨po, PP.length, pc, bo, BB.length, bc, f0, f1, f2, lo, ln, lc⟩ hrg ⟨rfl, rfl, rfl⟩ B pB y o c w' h bl hP
  have h29C := fun (y : (Option Addr × Nat) × (Option Addr × Nat) × (Option Addr × Nat)) (o : Option Addr) (c : Nat) (w' : World) (h : nrH PP BB GG y w') (hP : Rd 1 iF (.slice o C.length c) C w') => Bears_nr PP BB GG f0 f1 f2 ⟨po, PP.length, pc, bo, BB.length, bc, f0, f1, f2, lo, ln, lc⟩ hrg ⟨rfl, rfl, rfl⟩ C pC y o c w' h bl hP
  have h29Z := fun (y : (Option Addr × Nat) × (Option Addr × Nat) × (Option Addr × Nat)) (o : Option Addr) (c : Nat) (w' : World) (h : nrH PP BB GG y w') (hP : Rd 1 iF (.slice o Z.length c) Z w') => Bears_nr PP BB GG f0 f1 f2 ⟨po, PP.length, pc, bo, BB.length, bc, f0, f1, f2, lo, ln, lc⟩ hrg ⟨rfl, rfl, rfl⟩ Z pZ y o c w' h bl hP
  have hXb := hX.b
  dsimp only at hXb
  generalize bPt (frF BB GG) PP.length A = PA at *
  generalize hHA : bHg (frF BB GG) BB.length A = HA at *
  generalize bPt (frF BB GG) PP.length B = PB at *
  generalize hHB : bHg (frF BB GG) BB.length B = HB at *
  generalize bPt (frF BB GG) PP.length C = PC at *
  generalize hHC : bHg (frF BB GG) BB.length C = HC at *
  generalize bPt (frF BB GG) PP.length Z = PZ at *
  generalize hHZ : bHg (frF BB GG) BB.length Z = HZ at *
  simp only [nrV, lA, hGn] at h29A
  simp only [nrV, lB, hGn] at h29B
  simp only [nrV, lC, hGn] at h29C
  simp only [nrV, lZ, hGn] at h29Z
  refine VC.cutH env mixed 10 8 (fun x : Nat × (Option Addr × Nat) => [(4, .v (.int .u8 pl)), (5, .ptr 0 0), (11, .ptr 7 0), (17, .v (sV ln yd)), (29, .v (sV BB.length x.2)), (33, .v (iv x.1))]) (fun _ => [(0, .cells [.v (.slice po PP.length pc), .v (.slice bo BB.length bc), .v (iv f0), .v (iv f1), .v (iv f2), .v (.slice lo ln lc)] 48), (7, .cells [.v (sV PP.length y1), .v (sV BB.length y2), .v (iv f0), .v (iv f1), .v (iv f2), .os 5 6 ln] 58), (5, .own 6 ln 5 (GG.flatMap Ld.cs) 69)]) (fun x w2 => Below w.heap.size w w2 ∧ Rd 1 iF (sV PP.length y1) PP w2 ∧ Rd 8 Bm.cs (sV BB.length y2) BB w2 ∧ Rd 1 iF (sV ln yd) Z w2 ∧ Rd 2 gF (sV BB.length x.2) HZ w2) (fun x => (∃ m, BB[x.1]? = some m ∧ (m.lo + m.hi) % 2 = 0) ∧ ln < 20 ∧ ∃ ad, x.2.1 = some ad) (fun _ _ => ⟨rfl, rfl⟩) ?_ (fun x ⟨⟨m, h1, h2⟩, h3, h4⟩ => hD x.1 m h1 h2 h3 x.2 h4)
  clear hD
  obtain ⟨ya1, ya2⟩ := ya
  obtain ⟨yb1, yb2⟩ := yb
  obtain ⟨yc1, yc2⟩ := yc
  obtain ⟨yd1, yd2⟩ := yd
  obtain ⟨y11, y12⟩ := y1
  obtain ⟨y21, y22⟩ := y2
  repeat'
   conv => whnf
   first
    | refine zA ?_ | refine zB ?_ | refine zC ?_ | refine zD ?_ | refine zE ?_ | refine zF ?_ | refine zG ?_ | refine zH ?_ | refine zJ ?_ | refine zI ?_ | refine splT ?_ | refine splF ?_ | refine splNot ?_
    | ((first | refine splIn (fun hc => ?_) (fun hc => ?_) | refine splD (fun hc => ?_) (fun hc => ?_) | refine splE (fun hc => ?_) (fun hc => ?_) | refine splNE (fun hc => ?_) (fun hc => ?_)) <;> first | (exfalso; omega) | (exfalso; dsimp only at hc; omega) | skip)
    | ((with_reducible show CallEv _ _ 29 [_, .v (sV _ (ya1, ya2))] _ _ _ _); refine callF [5] (fun z : YS PA × YS HA => .tuple #[sV PP.length z.1.1, sV BB.length z.2.1, iv 0]) (fun z w2 => Rd 1 iF (sV PP.length z.1.1) PA w2 ∧ Rd 2 gF (sV BB.length z.2.1) HA w2) (fun β w' hbk hbw => h29A ((y11, y12), (y21, y22), ((some ⟨β 5, 0, none⟩, β 6))) _ _ w' ⟨hbw.2.1, hbw.2.2.1, (Rd.of_owns (sz := 5) (f := Ld.cs) (fun _ => rfl) rfl rfl (by rw [hGn]; exact hbk 5 (by simp) _ rfl))⟩ hbw.2.2.2.1) ?_; intro z; obtain ⟨⟨⟨a1, a2⟩, ha1⟩, ⟨⟨a3, a4⟩, ha3⟩⟩ := z; dsimp only at ha1 ha3 ⊢)
    | ((with_reducible show CallEv _ _ 29 [_, .v (sV _ (yb1, yb2))] _ _ _ _); refine callF [5] (fun z : YS PB × YS HB => .tuple #[sV PP.length z.1.1, sV BB.length z.2.1, iv 0]) (fun z w2 => Rd 1 iF (sV PP.length z.1.1) PB w2 ∧ Rd 2 gF (sV BB.length z.2.1) HB w2) (fun β w' hbk hbw => h29B ((y11, y12), (y21, y22), ((some ⟨β 5, 0, none⟩, β 6))) _ _ w' ⟨hbw.1.2.1, hbw.1.2.2.1, (Rd.of_owns (sz := 5) (f := Ld.cs) (fun _ => rfl) rfl rfl (by rw [hGn]; exact hbk 5 (by simp) _ rfl))⟩ hbw.1.2.2.2.2.1) ?_; intro z; obtain ⟨⟨⟨b1, b2⟩, hb1⟩, ⟨⟨b3, b4⟩, hb3⟩⟩ := z; dsimp only at hb1 hb3 ⊢)
    | ((with_reducible show CallEv _ _ 29 [_, .v (sV _ (yc1, yc2))] _ _ _ _); refine callF [5] (fun z : YS PC × YS HC => .tuple #[sV PP.length z.1.1, sV BB.length z.2.1, iv 0]) (fun z w2 => Rd 1 iF (sV PP.length z.1.1) PC w2 ∧ Rd 2 gF (sV BB.length z.2.1) HC w2) (fun β w' hbk hbw => h29C ((y11, y12), (y21, y22), ((some ⟨β 5, 0, none⟩, β 6))) _ _ w' ⟨hbw.1.1.2.1, hbw.1.1.2.2.1, (Rd.of_owns (sz := 5) (f := Ld.cs) (fun _ => rfl) rfl rfl (by rw [hGn]; exact hbk 5 (by simp) _ rfl))⟩ hbw.1.1.2.2.2.2.2.1) ?_; intro z; obtain ⟨⟨⟨c1, c2⟩, hc1⟩, ⟨⟨c3, c4⟩, hc3⟩⟩ := z; dsimp only at hc1 hc3 ⊢)
    | ((with_reducible show CallEv _ _ 29 [_, .v (sV _ (yd1, yd2))] _ _ _ _); refine callF [5] (fun z : YS PZ × YS HZ => .tuple #[sV PP.length z.1.1, sV BB.length z.2.1, iv 0]) (fun z w2 => Rd 1 iF (sV PP.length z.1.1) PZ w2 ∧ Rd 2 gF (sV BB.length z.2.1) HZ w2) (fun β w' hbk hbw => h29Z ((y11, y12), (y21, y22), ((some ⟨β 5, 0, none⟩, β 6))) _ _ w' ⟨hbw.1.1.1.2.1, hbw.1.1.1.2.2.1, (Rd.of_owns (sz := 5) (f := Ld.cs) (fun _ => rfl) rfl rfl (by rw [hGn]; exact hbk 5 (by simp) _ rfl))⟩ hbw.1.1.1.2.2.2.2.2.2) ?_; intro z; obtain ⟨⟨⟨z1, z2⟩, hz1⟩, ⟨⟨z3, z4⟩, hz3⟩⟩ := z; dsimp only at hz1 hz3 ⊢)
  all_goals first | (exfalso; omega) | skip
  obtain ⟨ap, rfl⟩ := ha1.resolve_left fun hc => by obtain ⟨a, b, c, d, q1, q2, q3, q4, _⟩ := hPT 0 (by omega); rw [hc] at q1; simp at q1
  obtain ⟨bp, rfl⟩ := hb1.resolve_left fun hc => by obtain ⟨a, b, c, d, q1, q2, q3, q4, _⟩ := hPT 0 (by omega); rw [hc] at q2; simp at q2
  obtain ⟨cp, rfl⟩ := hc1.resolve_left fun hc => by obtain ⟨a, b, c, d, q1, q2, q3, q4, _⟩ := hPT 0 (by omega); rw [hc] at q3; simp at q3
  obtain ⟨zp, rfl⟩ := hz1.resolve_left fun hc => by obtain ⟨a, b, c, d, q1, q2, q3, q4, _⟩ := hPT 0 (by omega); rw [hc] at q4; simp at q4
  refine loopN 8 (fun k : Nat => [(3, .v (.int .u8 bm)), (4, .v (.int .u8 pl)), (5, .ptr 0 0), (11, .ptr 7 0), (13, .v (iv ln)), (17, .v (sV ln (yd1, yd2))), (20, .v (sV BB.length (a3, a4))), (23, .v (sV BB.length (b3, b4))), (26, .v (sV BB.length (c3, c4))), (29, .v (sV BB.length (z3, z4))), (19, .v (sV PP.length (some ap, a2))), (22, .v (sV PP.length (some bp, b2))), (25, .v (sV PP.length (some cp, c2))), (28, .v (sV PP.length (some zp, z2))), (31, .v (iv k))]) (fun _ => [(0, .cells [.v (.slice po PP.length pc), .v (.slice bo BB.length bc), .v (iv f0), .v (iv f1), .v (iv f2), .v (.slice lo ln lc)] 48), (7, .cells [.v (sV PP.length (y11, y12)), .v (sV BB.length (y21, y22)), .v (iv f0), .v (iv f1), .v (iv f2), .os 5 6 ln] 58), (5, .own 6 ln 5 (GG.flatMap Ld.cs) 69)]) (fun k => k ≤ PP.length) (fun k => PP.length - k) 0 (Nat.zero_le _) ⟨rfl, rfl, rfl, rfl, rfl, rfl, rfl, rfl, rfl, rfl, rfl, rfl, rfl, rfl, rfl, trivial⟩ ⟨rfl, rfl, rfl, trivial⟩ (fun _ _ => ⟨rfl, rfl⟩) ?_
  intro k hk
  rcases Nat.lt_or_ge k PP.length with hkl | hkl
  · obtain ⟨a, b, c, d, q1, q2, q3, q4, q5, q6, q7, q8, q9⟩ := hPT k hkl
    repeat'
     conv => whnf
     first
      | refine zA ?_ | refine zB ?_ | refine zC ?_ | refine zD ?_ | refine zE ?_ | refine zF ?_ | refine zG ?_ | refine zH ?_ | refine zJ ?_ | refine zI ?_ | refine splT ?_ | refine splF ?_ | refine splNot ?_
      | ((first | refine splIn (fun hc => ?_) (fun hc => ?_) | refine splD (fun hc => ?_) (fun hc => ?_) | refine splE (fun hc => ?_) (fun hc => ?_) | refine splNE (fun hc => ?_) (fun hc => ?_)) <;> first | (exfalso; omega) | (exfalso; dsimp only at hc; omega) | skip)
      | refine Exists.intro (α := List Value) [iv a] ⟨⟨rfl, fun w' hw' => rd_ati hw'.1.1.1.2.1 q1⟩, ?_⟩
      | refine Exists.intro (α := List Value) [iv b] ⟨⟨rfl, fun w' hw' => rd_ati hw'.1.1.2.1 q2⟩, ?_⟩
      | refine Exists.intro (α := List Value) [iv c] ⟨⟨rfl, fun w' hw' => rd_ati hw'.1.2.1 q3⟩, ?_⟩
      | refine Exists.intro (α := List Value) [iv d] ⟨⟨rfl, fun w' hw' => rd_ati hw'.2.1 q4⟩, ?_⟩
    all_goals first | (exfalso; omega) | exact ⟨k + 1, by omega, by omega, Ent.weak rfl ⟨rfl, rfl, rfl, rfl, rfl, rfl, rfl, rfl, rfl, rfl, rfl, rfl, rfl, rfl, rfl, trivial⟩ ⟨rfl, rfl, rfl, trivial⟩ fun _ h => h⟩
  obtain rfl : k = PP.length := by omega
  clear hPT
  repeat'
   conv => whnf
   first
    | refine zA ?_ | refine zB ?_ | refine zC ?_ | refine zD ?_ | refine zE ?_ | refine zF ?_ | refine zG ?_ | refine zH ?_ | refine zJ ?_ | refine zI ?_ | refine splT ?_ | refine splF ?_ | refine splNot ?_
    | ((first | refine splIn (fun hc => ?_) (fun hc => ?_) | refine splD (fun hc => ?_) (fun hc => ?_) | refine splE (fun hc => ?_) (fun hc => ?_) | refine splNE (fun hc => ?_) (fun hc => ?_)) <;> first | (exfalso; omega) | (exfalso; dsimp only at hc; omega) | skip)
  all_goals first | (exfalso; omega) | skip
  refine loopN 8 (fun k : Nat => [(3, .v (.int .u8 bm)), (4, .v (.int .u8 pl)), (5, .ptr 0 0), (11, .ptr 7 0), (13, .v (iv ln)), (17, .v (sV ln (yd1, yd2))), (20, .v (sV BB.length (a3, a4))), (23, .v (sV BB.length (b3, b4))), (26, .v (sV BB.length (c3, c4))), (29, .v (sV BB.length (z3, z4))), (32, .v (iv k))]) (fun _ => [(0, .cells [.v (.slice po PP.length pc), .v (.slice bo BB.length bc), .v (iv f0), .v (iv f1), .v (iv f2), .v (.slice lo ln lc)] 48), (7, .cells [.v (sV PP.length (y11, y12)), .v (sV BB.length (y21, y22)), .v (iv f0), .v (iv f1), .v (iv f2), .os 5 6 ln] 58), (5, .own 6 ln 5 (GG.flatMap Ld.cs) 69)]) (fun k => k ≤ BB.length) (fun k => BB.length - k) 0 (Nat.zero_le _) ⟨rfl, rfl, rfl, rfl, rfl, rfl, rfl, rfl, rfl, rfl, rfl, trivial⟩ ⟨rfl, rfl, rfl, trivial⟩ (fun _ _ => ⟨rfl, rfl⟩) ?_
  clear hk hkl
  intro k hk
  rcases Nat.lt_or_ge k BB.length with hkl | hkl
  · obtain ⟨a, b, c, d, a', b', c', d', q1, q2, q3, q4, q5, q6⟩ := hHG k hkl
    obtain ⟨ah, rfl⟩ := ha3.resolve_left fun hc => by rw [hc] at q1; simp at q1
    obtain ⟨bh, rfl⟩ := hb3.resolve_left fun hc => by rw [hc] at q2; simp at q2
    obtain ⟨ch, rfl⟩ := hc3.resolve_left fun hc => by rw [hc] at q3; simp at q3
    obtain ⟨zh, rfl⟩ := hz3.resolve_left fun hc => by rw [hc] at q4; simp at q4
    repeat'
     conv => whnf
     first
      | refine zA ?_ | refine zB ?_ | refine zC ?_ | refine zD ?_ | refine zE ?_ | refine zF ?_ | refine zG ?_ | refine zH ?_ | refine zJ ?_ | refine zI ?_ | refine splT ?_ | refine splF ?_ | refine splNot ?_
      | ((first | refine splIn (fun hc => ?_) (fun hc => ?_) | refine splD (fun hc => ?_) (fun hc => ?_) | refine splE (fun hc => ?_) (fun hc => ?_) | refine splNE (fun hc => ?_) (fun hc => ?_)) <;> first | (exfalso; omega) | (exfalso; dsimp only at hc; omega) | skip)
      | refine idxP env rfl rfl rfl rfl (And.intro (by omega) (by omega)) ?_
      | refine Exists.intro (α := List Value) [iv a] ⟨⟨rfl, fun w' hw' => rd_fld hw'.1.1.1.2.2 q1 0 (iv a) rfl⟩, ?_⟩
      | refine Exists.intro (α := List Value) [iv a'] ⟨⟨rfl, fun w' hw' => rd_fld hw'.1.1.1.2.2 q1 1 (iv a') rfl⟩, ?_⟩
      | refine Exists.intro (α := List Value) [iv b] ⟨⟨rfl, fun w' hw' => rd_fld hw'.1.1.2.2 q2 0 (iv b) rfl⟩, ?_⟩
      | refine Exists.intro (α := List Value) [iv b'] ⟨⟨rfl, fun w' hw' => rd_fld hw'.1.1.2.2 q2 1 (iv b') rfl⟩, ?_⟩
      | refine Exists.intro (α := List Value) [iv c] ⟨⟨rfl, fun w' hw' => rd_fld hw'.1.2.2 q3 0 (iv c) rfl⟩, ?_⟩
      | refine Exists.intro (α := List Value) [iv c'] ⟨⟨rfl, fun w' hw' => rd_fld hw'.1.2.2 q3 1 (iv c') rfl⟩, ?_⟩
      | refine Exists.intro (α := List Value) [iv d] ⟨⟨rfl, fun w' hw' => rd_fld hw'.2.2 q4 0 (iv d) rfl⟩, ?_⟩
      | refine Exists.intro (α := List Value) [iv d'] ⟨⟨rfl, fun w' hw' => rd_fld hw'.2.2 q4 1 (iv d') rfl⟩, ?_⟩
    all_goals first | (exfalso; omega) | exact ⟨k + 1, by omega, by omega, Ent.weak rfl ⟨rfl, rfl, rfl, rfl, rfl, rfl, rfl, rfl, rfl, rfl, rfl, trivial⟩ ⟨rfl, rfl, rfl, trivial⟩ fun _ h => h⟩
  obtain rfl : k = BB.length := by omega
  by_cases hout : BB.length = 0 ∨ ln = 20
  · rcases hout with hb0 | rfl
    all_goals skip
    repeat'
     conv => whnf
     first
      | refine zA ?_ | refine zB ?_ | refine zC ?_ | refine zD ?_ | refine zE ?_ | refine zF ?_ | refine zG ?_ | refine zH ?_ | refine zJ ?_ | refine zI ?_ | refine splT ?_ | refine splF ?_ | refine splNot ?_
      | ((first | refine splIn (fun hc => ?_) (fun hc => ?_) | refine splD (fun hc => ?_) (fun hc => ?_) | refine splE (fun hc => ?_) (fun hc => ?_) | refine splNE (fun hc => ?_) (fun hc => ?_)) <;> first | (exfalso; omega) | (exfalso; dsimp only at hc; omega) | skip)
      | ((with_reducible show CallEv _ _ 16 _ _ _ _ _); refine callE (k := 16) (fun β w' hbw => awake_ok _) ?_)
    all_goals first | (exfalso; omega) | exact ⟨fun β => rfl, fun w' h => h.1.1.1.1.1⟩
  obtain ⟨tt, htt⟩ : ∃ tt : Nat, bm % (BB.length : Int) = tt := ⟨(bm % (BB.length : Int)).toNat, by have := Int.emod_nonneg bm (b := (BB.length : Int)) (by omega); omega⟩
  have htl : tt < BB.length := by have := Int.emod_lt_of_pos bm (b := (BB.length : Int)) (by omega); omega
  obtain ⟨m, hm⟩ : ∃ m, BB[tt]? = some m := ⟨_, List.getElem?_eq_getElem htl⟩
  have hmok := bmOk_iff.1 (bm_at hr hm)
  obtain ⟨_, adb, rfl, _⟩ := hXb.ptr (by omega)
  have g0 := fun (w' : World) (hb : Below w.heap.size w w') => rd_fld (hXb.below hb) hm 0 (iv m.lo) rfl
  have g1 := fun (w' : World) (hb : Below w.heap.size w w') => rd_fld (hXb.below hb) hm 1 (iv m.hi) rfl
  obtain ⟨zh, rfl⟩ := hz3.resolve_left fun hc => by obtain ⟨a, b, c, d, a', b', c', d', q1, q2, q3, q4, _⟩ := hHG tt htl; rw [hc] at q4; simp at q4
  have hlh1 : 0 ≤ m.lo + m.hi ∧ m.lo + m.hi ≤ 120 := by omega
  obtain ⟨m1, hm1⟩ : ∃ x, m.lo = x := ⟨_, rfl⟩
  obtain ⟨m2, hm2⟩ : ∃ x, m.hi = x := ⟨_, rfl⟩
  have hpr : (m.lo + m.hi) % 2 = (m1 + m2) % 2 := by rw [hm1, hm2]
  rw [hm1] at g0 hmok hlh1
  rw [hm2] at g1 hmok hlh1
  clear hHG
  by_cases hpar : (m1 + m2) % 2 = 0
  all_goals skip
  repeat'
   conv => whnf
   first
    | refine zA ?_ | refine zB ?_ | refine zC ?_ | refine zD ?_ | refine zE ?_ | refine zF ?_ | refine zG ?_ | refine zH ?_ | refine zJ ?_ | refine zI ?_ | refine splT ?_ | refine splF ?_ | refine splNot ?_
    | ((first | refine splIn (fun hc => ?_) (fun hc => ?_) | refine splD (fun hc => ?_) (fun hc => ?_) | refine splE (fun hc => ?_) (fun hc => ?_) | refine splNE (fun hc => ?_) (fun hc => ?_)) <;> first | (exfalso; omega) | (exfalso; dsimp only at hc; omega) | skip)
    | refine Exists.intro (α := Value) (iv bm) ⟨cv8 bm hbm, ?_⟩
    | (refine remE (by omega) (by omega) ?_; rw [htt])
    | refine Exists.intro (α := List Value) [iv m1] ⟨⟨rfl, fun w' hw' => g0 w' hw'.1.1.1.1.1⟩, ?_⟩
    | refine Exists.intro (α := List Value) [iv m2] ⟨⟨rfl, fun w' hw' => g1 w' hw'.1.1.1.1.1⟩, ?_⟩
    | refine remE (by omega) (by omega) ?_
    | ((with_reducible show CallEv _ _ 16 _ _ _ _ _); refine callE (k := 16) (fun β w' hbw => awake_ok _) ?_)
  all_goals first | (exfalso; omega) | exact ⟨fun β => rfl, fun w' h => h.1.1.1.1.1⟩ | exact ⟨rfl, (tt, (some zh, z4)), ⟨⟨m, hm, by rw [hpr]; exact hpar⟩, by omega, _, rfl⟩, Ent.weak rfl ⟨rfl, rfl, rfl, rfl, rfl, rfl, trivial⟩ ⟨rfl, rfl, rfl, trivial⟩ fun _ h => ⟨h.1.1.1.1.1, h.1.1.1.1.2.1, h.1.1.1.1.2.2.1, h.1.1.1.1.2.2.2.2.2.2, h.2.2⟩⟩

set_option maxHeartbeats 16000000 in
set_option maxRecDepth 100000 in
theorem LevDn (po bo lo : Option Addr) (pn pc bn bc ln lc : Nat) (f0 f1 f2 : Int) (PP : List Int) (BB : List Bm) (LL GG : List Ld) (w : World) (hX : RigX ⟨po, pn, pc, bo, bn, bc, f0, f1, f2, lo, ln, lc⟩ PP BB LL w) (hr : rigOk f0 f1 f2 PP BB LL = true) (hGG : GG = LL.map gl) (n : Nat) (hn : LL.length = n) (pl : Int) (hpl : 0 ≤ pl ∧ pl ≤ 255) (y1 y2 : Option Addr × Nat) (h0 : GG = []) (Z : List Int) (hZ : Z = List.replicate n (0 : Int)) (tt : Nat) (m : Bm) (hm : BB[tt]? = some m) (hpar : (m.lo + m.hi) % 2 = 0) (hn20 : n < 20) (yd yk : Option Addr × Nat) (hyk : ∃ ad, yk.1 = some ad) :
    VC Try.prog (rest 10 (rest 3 (rest 4 body5))) ⟨402, [(4, .v (.int .u8 pl)), (5, .ptr 0 0), (11, .ptr 7 0), (17, .v (sV n yd)), (29, .v (sV BB.length yk)), (33, .v (iv tt))], [(0, .cells [.v (.slice po pn pc), .v (.slice bo bn bc), .v (iv f0), .v (iv f1), .v (iv f2), .v (.slice lo ln lc)] 48), (7, .cells [.v (sV PP.length y1), .v (sV BB.length y2), .v (iv f0), .v (iv f1), .v (iv f2), .v (.slice none 0 0)] 58)], 8, fun w2 => Below w.heap.size w w2 ∧ Rd 1 iF (sV PP.length y1) PP w2 ∧ Rd 8 Bm.cs (sV BB.length y2) BB w2 ∧ Rd 1 iF (sV n yd) Z w2 ∧ Rd 2 gF (sV BB.length yk) (bHg (frF BB GG) BB.length Z) w2, z0⟩ (endΦ env Try.f5 fun s σ => (∀ β, s.c β = .bool true) ∧ ∀ w', σ.h w' → Below w.heap.size w w') := by
  have hri := rigOk_iff.1 hr
  have hm12 : BB.length ≤ 12 := hri.2.2.1
  have hl20 : LL.length ≤ 20 := hri.2.2.2.2.1
  have hP1 := hri.1
  have hpn := hX.pn
  have hbn := hX.bn
  have hln := hX.ln
  dsimp only at hpn hbn hln
  rw [hn] at hln
  subst hpn
  subst hbn
  subst hln
  have hrg : rigOk f0 f1 f2 PP BB GG = true := by rw [hGG]; exact rigOk_gl hr
  have hGn : GG.length = ln := by rw [hGG, List.length_map, hn]
  have hl0 : ln = 0 := by rw [← hGn, h0]; rfl
  subst hl0
  subst h0
  have htl := (List.getElem?_eq_some_iff.1 hm).1
  have hmok := bmOk_iff.1 (bm_at hr hm)
  have lZ : Z.length = 0 := by rw [hZ, List.length_replicate]
  have hzz : ∀ i, Z.getD i 0 = 0 := fun i => by rw [hZ, List.getD_eq_getElem?_getD, List.getElem?_replicate]; split <;> rfl
  have pZ : pulB ⟨po, PP.length, pc, bo, BB.length, bc, f0, f1, f2, lo, 0, lc⟩ ([] : List Ld) Z = true := by rw [hGG]; exact pul_gl hr ⟨rfl, rfl, rfl⟩ (by rw [lZ, hn]) fun x hx => by rw [hZ] at hx; rw [List.eq_of_mem_replicate hx]; omega
  have hr2 := rigOk_ml hrg hm (by omega)
  have e0 := lev_mid hrg hm (by omega) hpar Z hzz (by rw [lZ, hGn]) pl 0 (by omega)
  have e1 := lev_mid hrg hm (by omega) hpar Z hzz (by rw [lZ, hGn]) pl 1 (by omega)
  have hp2 : pulB ⟨po, PP.length, pc, bo, BB.length, bc, f0, f1, f2, lo, 0, lc⟩ (([] : List Ld) ++ [ml m tt]) (Z ++ [pl]) = true := pul_snoc pZ (by
    have hb := hiP_bd (r := ⟨po, PP.length, pc, bo, BB.length, bc, f0, f1, f2, lo, 0, lc⟩) (l := ml m tt) (fac_bd (r := ⟨po, PP.length, pc, bo, BB.length, bc, f0, f1, f2, lo, 0, lc⟩) hri.2.2.2.2.2.1 (ml m tt).kind) (by show (0 : Int) ≤ 1000 ∧ (1000 : Int) ≤ 1000000; omega)
    have h1 : (ml m tt).hi = 1000 := rfl
    have h2 : (ml m tt).lo = 0 := rfl
    omega)
  have hfx : ([] : List Ld).flatMap Ld.cs ++ [iv tt, iv ((m.lo + m.hi) / 2), .int .u8 0, iv 0, iv 1000] = (([] : List Ld) ++ [ml m tt]).flatMap Ld.cs := by rw [List.flatMap_append]; simp [ml]
  obtain ⟨lm, hlm⟩ : ∃ lm : Ld, ml m tt = lm := ⟨_, rfl⟩
  rw [hlm] at hr2 e0 e1 hp2 hfx
  have hG2 : (([] : List Ld) ++ [lm]).length = 0 + 1 := by rw [List.length_append, hGn]; rfl
  obtain ⟨P2, hPe⟩ : ∃ P2, Z ++ [pl] = P2 := ⟨_, rfl⟩
  have hfp : Z.flatMap iF ++ [iv pl] = P2.flatMap iF := by rw [← hPe, List.flatMap_append]; rfl
  have hP2 : P2.length = 0 + 1 := by rw [← hPe, List.length_append, lZ]; rfl
  rw [hPe] at e0 e1 hp2
  rw [show Z.length + 1 = P2.length from by rw [lZ, hP2]] at e0 e1
  obtain ⟨G2, hGe⟩ : ∃ G2, ([] : List Ld) ++ [lm] = G2 := ⟨_, rfl⟩
  rw [hGe] at hr2 e0 e1 hp2 hfx hG2
  have b2 := pulB_B (r := ⟨po, PP.length, pc, bo, BB.length, bc, f0, f1, f2, lo, 0, lc⟩) hr2 hp2
  have bZ := pulB_B (r := ⟨po, PP.length, pc, bo, BB.length, bc, f0, f1, f2, lo, 0, lc⟩) hrg pZ
  have hQ := frF_Q hrg
  have hQ2 := frF_Q hr2
  have bd : ∀ (x : Row) (D : List Int), rowQ x → pullsB D → -400000000000000000 ≤ dotR x D D.length ∧ dotR x D D.length ≤ 400000000000000000 := fun x D hx hD => by
    have := dotR_q hx hD D.length (Nat.le_refl _)
    have := hD.1
    omega
  have u0 := bd _ _ (hQ2.2 tt 0) b2
  have u1 := bd _ _ (hQ2.2 tt 1) b2
  have k0 := bd _ _ (hQ.2 tt 0) bZ
  have k1 := bd _ _ (hQ.2 tt 1) bZ
  have q1 := rng_at (fun j => (dotR ((frF BB G2).h j 0) P2 P2.length, dotR ((frF BB G2).h j 1) P2 P2.length)) htl
  have q2 := rng_at (fun j => (dotR ((frF BB ([] : List Ld)).h j 0) Z Z.length, dotR ((frF BB ([] : List Ld)).h j 1) Z Z.length)) htl
  change (bHg (frF BB G2) BB.length P2)[tt]? = _ at q1
  change (bHg (frF BB ([] : List Ld)) BB.length Z)[tt]? = _ at q2
  have h29 := fun (o2 : Option Addr) (c2 : Nat) (o : Option Addr) (c : Nat) (w' : World) (hP : Rd 1 iF (sV PP.length y1) PP w') (hB : Rd 8 Bm.cs (sV BB.length y2) BB w') (hL : Rd 5 Ld.cs (.slice o2 (0 + 1) c2) G2 w') (hq : Rd 1 iF (.slice o (0 + 1) c) P2 w') =>
    Bears_own ⟨y1.1, PP.length, y1.2, y2.1, BB.length, y2.2, f0, f1, f2, o2, 0 + 1, c2⟩ PP BB G2 P2 o c w' ⟨hP, hB, by rw [hG2]; exact hL, rfl, rfl, hG2.symm, by omega, by omega, by omega⟩ (by rw [hP2]; exact hq) (by omega) hr2 ((pulB_fac (fac_eq (r := ⟨y1.1, PP.length, y1.2, y2.1, BB.length, y2.2, f0, f1, f2, o2, 0 + 1, c2⟩) (r' := ⟨po, PP.length, pc, bo, BB.length, bc, f0, f1, f2, lo, 0, lc⟩) rfl rfl rfl) G2 P2).trans hp2)
  simp only [hP2] at h29
  have hPn : (bPt (frF BB G2) PP.length P2).length = PP.length := by simp [bPt]
  have hHn : (bHg (frF BB G2) BB.length P2).length = BB.length := by simp [bHg]
  generalize bPt (frF BB G2) PP.length P2 = PU at *
  generalize bHg (frF BB G2) BB.length P2 = HU at *
  generalize bHg (frF BB ([] : List Ld)) BB.length Z = HZ at *
  generalize dotR ((frF BB G2).h tt 0) P2 P2.length = u0' at *
  generalize dotR ((frF BB G2).h tt 1) P2 P2.length = u1' at *
  generalize dotR ((frF BB ([] : List Ld)).h tt 0) Z Z.length = k0' at *
  generalize dotR ((frF BB ([] : List Ld)).h tt 1) Z Z.length = k1' at *
  have hXb := hX.b
  dsimp only at hXb
  obtain ⟨_, adb, rfl, _⟩ := hXb.ptr (by omega)
  have g0 := fun (w' : World) (hb : Below w.heap.size w w') => rd_fld (hXb.below hb) hm 0 (iv m.lo) rfl
  have g1 := fun (w' : World) (hb : Below w.heap.size w w') => rd_fld (hXb.below hb) hm 1 (iv m.hi) rfl
  have hlh1 : 0 ≤ m.lo + m.hi ∧ m.lo + m.hi ≤ 120 := by omega
  have hlh2 : (0 ≤ m.lo ∧ m.lo ≤ 60) ∧ (0 ≤ m.hi ∧ m.hi ≤ 60) := by omega
  have hq0 : 0 ≤ (m.lo + m.hi) / 2 ∧ (m.lo + m.hi) / 2 ≤ 60 := by omega
  generalize m.lo = m1 at *
  generalize m.hi = m2 at *
  obtain ⟨qq, hqq⟩ : ∃ qq, (m1 + m2) / 2 = qq := ⟨_, rfl⟩
  rw [hqq] at hfx hq0
  cases HU with
  | nil => simp at q1
  | cons g HU =>
  refine VC.cutD env mixed 2 0 (fun x : Option Addr × Nat => [(4, .v (.int .u8 pl)), (29, .v (sV BB.length yk)), (33, .v (iv tt)), (35, .v (sV BB.length x)), (36, .v (iv 0))]) (fun _ => []) (fun x w2 => Below w.heap.size w w2 ∧ Rd 2 gF (sV BB.length yk) HZ w2 ∧ Rd 2 gF (sV BB.length x) (g :: HU) w2) (fun x => ∃ ad, x.1 = some ad) (fun _ _ => ⟨rfl, rfl⟩) ?_ ?_
  · clear e0 e1 u0 u1 k0 k1 q1 q2 hyk
    obtain ⟨yd1, yd2⟩ := yd
    obtain ⟨y11, y12⟩ := y1
    obtain ⟨y21, y22⟩ := y2
    dsimp only at h29
    have hZ0 : Z = [] := List.eq_nil_of_length_eq_zero lZ
    subst hZ0
    have h31 := fun (w' : World) (hP : Rd 1 iF (.slice yd1 0 yd2) [] w') => list_none yd1 yd2 w' hP
    repeat'
     conv => whnf
     first
      | refine zA ?_ | refine zB ?_ | refine zC ?_ | refine zD ?_ | refine zE ?_ | refine zF ?_ | refine zG ?_ | refine zH ?_ | refine zJ ?_ | refine zI ?_ | refine splT ?_ | refine splF ?_ | refine splNot ?_
      | ((first | refine splIn (fun hc => ?_) (fun hc => ?_) | refine splD (fun hc => ?_) (fun hc => ?_) | refine splE (fun hc => ?_) (fun hc => ?_) | refine splNE (fun hc => ?_) (fun hc => ?_)) <;> first | (exfalso; omega) | (exfalso; dsimp only at hc; omega) | skip)
      | refine Exists.intro (α := List Value) [iv m1] ⟨⟨rfl, fun w' hw' => g0 w' hw'.1⟩, ?_⟩
      | refine Exists.intro (α := List Value) [iv m2] ⟨⟨rfl, fun w' hw' => g1 w' hw'.1⟩, ?_⟩
      | (refine quoE (by omega) (by omega) (And.intro (by omega) (by omega)) ?_; rw [hqq])
      | ((with_reducible show CallEv _ _ 31 _ _ _ _ _); refine callE (k := 31) (fun β w' hbw => h31 _ hbw.2.2.2.1) ?_)
      | refine Exists.intro (α := Value) (iv pl) ⟨cv8 pl hpl, ?_⟩
      | ((with_reducible show CallEv _ _ 29 _ _ _ _ _); refine callR [14, 15, 16, 17] [9, 12] (brM 14 PU (g :: HU)) (brS 14 PP.length (g :: HU)) rfl (fun i b hi => by simp [brM, oM] at hi; rcases hi with ⟨rfl, _⟩ | ⟨rfl, _⟩ <;> decide) (fun β w' hbk hbw => (h29 (some ⟨β 9, 0, none⟩) (β 10) (some ⟨β 12, 0, none⟩) (β 13) w' hbw.2.1 hbw.2.2.1 (Rd.of_owns (sz := 5) (f := Ld.cs) (fun _ => rfl) (by simpa using hfx) hG2.symm (hbk 9 (by simp) _ rfl)) (Rd.of_owns (sz := 1) (f := iF) (fun _ => rfl) (by simpa using hfp) hP2.symm (hbk 12 (by simp) _ rfl))).mono fun e w2 h => mv_gen (nb := 14) (k := 4) rfl (br_V 14 _ _) (br_m 14 _ _) h) ?_)
    all_goals first | (exfalso; omega) | skip
    exact ⟨rfl, Dis.mk2 [16] (fun i hi => by simp at hi; subst hi; exact ⟨_, rfl, rfl⟩) fun β w1 hb hw => ⟨(some ⟨β 16, 0, none⟩, β 17), ⟨_, rfl⟩, ⟨⟨_, rfl, rfl⟩, ⟨_, rfl, rfl⟩, ⟨_, rfl, rfl⟩, ⟨_, rfl, by rw [← hHn]; rfl⟩, ⟨_, rfl, rfl⟩, trivial⟩, trivial, fun w2 h2 hb2 => ⟨h2.1, h2.2.2.2.2, Rd.of_owns (sz := 2) (f := gF) (fun _ => rfl) rfl hHn.symm (by rw [← hHn]; exact hb2 16 (by simp) _ rfl)⟩⟩⟩
  · rintro ⟨x1, x2⟩ ⟨ax, hax⟩
    dsimp only at hax
    subst hax
    obtain ⟨yk1, yk2⟩ := yk
    obtain ⟨ak, hak⟩ := hyk
    dsimp only at hak
    subst hak
    refine VC.of env mixed ?_
    repeat'
     conv => whnf
     first
      | refine zA ?_ | refine zB ?_ | refine zC ?_ | refine zD ?_ | refine zE ?_ | refine zF ?_ | refine zG ?_ | refine zH ?_ | refine zJ ?_ | refine zI ?_ | refine splT ?_ | refine splF ?_ | refine splNot ?_
      | ((first | refine splIn (fun hc => ?_) (fun hc => ?_) | refine splD (fun hc => ?_) (fun hc => ?_) | refine splE (fun hc => ?_) (fun hc => ?_) | refine splNE (fun hc => ?_) (fun hc => ?_)) <;> first | (exfalso; omega) | (exfalso; dsimp only at hc; omega) | skip)
      | refine Exists.intro (α := Value) (iv pl) ⟨cv8 pl hpl, ?_⟩
      | refine idxP env rfl rfl rfl rfl (And.intro (by omega) (by omega)) ?_
      | refine Exists.intro (α := List Value) [iv u0'] ⟨⟨rfl, fun w' hw' => rd_fld hw'.2.2 q1 0 (iv u0') rfl⟩, ?_⟩
      | refine Exists.intro (α := List Value) [iv u1'] ⟨⟨rfl, fun w' hw' => rd_fld hw'.2.2 q1 1 (iv u1') rfl⟩, ?_⟩
      | refine Exists.intro (α := List Value) [iv k0'] ⟨⟨rfl, fun w' hw' => rd_fld hw'.2.1 q2 0 (iv k0') rfl⟩, ?_⟩
      | refine Exists.intro (α := List Value) [iv k1'] ⟨⟨rfl, fun w' hw' => rd_fld hw'.2.1 q2 1 (iv k1') rfl⟩, ?_⟩
      | ((with_reducible show CallEv _ _ 16 _ _ _ _ _); refine callE (k := 16) (fun β w' hbw => awake_ok _) ?_)
    all_goals first | (exfalso; omega) | exact ⟨fun β => rfl, fun w' h => h.1⟩

set_option maxHeartbeats 16000000 in
set_option maxRecDepth 100000 in
theorem LevDc (po bo lo : Option Addr) (pn pc bn bc ln lc : Nat) (f0 f1 f2 : Int) (PP : List Int) (BB : List Bm) (LL GG : List Ld) (w : World) (hX : RigX ⟨po, pn, pc, bo, bn, bc, f0, f1, f2, lo, ln, lc⟩ PP BB LL w) (hr : rigOk f0 f1 f2 PP BB LL = true) (hGG : GG = LL.map gl) (n : Nat) (hn : LL.length = n) (pl : Int) (hpl : 0 ≤ pl ∧ pl ≤ 255) (y1 y2 : Option Addr × Nat) (h0 : GG ≠ []) (Z : List Int) (hZ : Z = List.replicate n (0 : Int)) (tt : Nat) (m : Bm) (hm : BB[tt]? = some m) (hpar : (m.lo + m.hi) % 2 = 0) (hn20 : n < 20) (yd yk : Option Addr × Nat) (hyk : ∃ ad, yk.1 = some ad) :
    VC Try.prog (rest 10 (rest 3 (rest 4 body5))) ⟨402, [(4, .v (.int .u8 pl)), (5, .ptr 0 0), (11, .ptr 7 0), (17, .v (sV n yd)), (29, .v (sV BB.length yk)), (33, .v (iv tt))], [(0, .cells [.v (.slice po pn pc), .v (.slice bo bn bc), .v (iv f0), .v (iv f1), .v (iv f2), .v (.slice lo ln lc)] 48), (7, .cells [.v (sV PP.length y1), .v (sV BB.length y2), .v (iv f0), .v (iv f1), .v (iv f2), .os 5 6 n] 58), (5, .own 6 n 5 (GG.flatMap Ld.cs) 69)], 8, fun w2 => Below w.heap.size w w2 ∧ Rd 1 iF (sV PP.length y1) PP w2 ∧ Rd 8 Bm.cs (sV BB.length y2) BB w2 ∧ Rd 1 iF (sV n yd) Z w2 ∧ Rd 2 gF (sV BB.length yk) (bHg (frF BB GG) BB.length Z) w2, z0⟩ (endΦ env Try.f5 fun s σ => (∀ β, s.c β = .bool true) ∧ ∀ w', σ.h w' → Below w.heap.size w w') := by
  have hri := rigOk_iff.1 hr
  have hm12 : BB.length ≤ 12 := hri.2.2.1
  have hl20 : LL.length ≤ 20 := hri.2.2.2.2.1
  have hP1 := hri.1
  have hpn := hX.pn
  have hbn := hX.bn
  have hln := hX.ln
  dsimp only at hpn hbn hln
  rw [hn] at hln
  subst hpn
  subst hbn
  subst hln
  have hrg : rigOk f0 f1 f2 PP BB GG = true := by rw [hGG]; exact rigOk_gl hr
  have hGn : GG.length = ln := by rw [hGG, List.length_map, hn]
  have htl := (List.getElem?_eq_some_iff.1 hm).1
  have hmok := bmOk_iff.1 (bm_at hr hm)
  have lZ : Z.length = ln := by rw [hZ, List.length_replicate]
  have hzz : ∀ i, Z.getD i 0 = 0 := fun i => by rw [hZ, List.getD_eq_getElem?_getD, List.getElem?_replicate]; split <;> rfl
  have pZ : pulB ⟨po, PP.length, pc, bo, BB.length, bc, f0, f1, f2, lo, ln, lc⟩ GG Z = true := by rw [hGG]; exact pul_gl hr ⟨rfl, rfl, rfl⟩ (by rw [lZ, hn]) fun x hx => by rw [hZ] at hx; rw [List.eq_of_mem_replicate hx]; omega
  have hr2 := rigOk_ml hrg hm (by omega)
  have e0 := lev_mid hrg hm (by omega) hpar Z hzz (by rw [lZ, hGn]) pl 0 (by omega)
  have e1 := lev_mid hrg hm (by omega) hpar Z hzz (by rw [lZ, hGn]) pl 1 (by omega)
  have hp2 : pulB ⟨po, PP.length, pc, bo, BB.length, bc, f0, f1, f2, lo, ln, lc⟩ (GG ++ [ml m tt]) (Z ++ [pl]) = true := pul_snoc pZ (by
    have hb := hiP_bd (r := ⟨po, PP.length, pc, bo, BB.length, bc, f0, f1, f2, lo, ln, lc⟩) (l := ml m tt) (fac_bd (r := ⟨po, PP.length, pc, bo, BB.length, bc, f0, f1, f2, lo, ln, lc⟩) hri.2.2.2.2.2.1 (ml m tt).kind) (by show (0 : Int) ≤ 1000 ∧ (1000 : Int) ≤ 1000000; omega)
    have h1 : (ml m tt).hi = 1000 := rfl
    have h2 : (ml m tt).lo = 0 := rfl
    omega)
  have hfx : GG.flatMap Ld.cs ++ [iv tt, iv ((m.lo + m.hi) / 2), .int .u8 0, iv 0, iv 1000] = (GG ++ [ml m tt]).flatMap Ld.cs := by rw [List.flatMap_append]; simp [ml]
  obtain ⟨lm, hlm⟩ : ∃ lm : Ld, ml m tt = lm := ⟨_, rfl⟩
  rw [hlm] at hr2 e0 e1 hp2 hfx
  have hG2 : (GG ++ [lm]).length = ln + 1 := by rw [List.length_append, hGn]; rfl
  obtain ⟨P2, hPe⟩ : ∃ P2, Z ++ [pl] = P2 := ⟨_, rfl⟩
  have hfp : Z.flatMap iF ++ [iv pl] = P2.flatMap iF := by rw [← hPe, List.flatMap_append]; rfl
  have hP2 : P2.length = ln + 1 := by rw [← hPe, List.length_append, lZ]; rfl
  rw [hPe] at e0 e1 hp2
  rw [show Z.length + 1 = P2.length from by rw [lZ, hP2]] at e0 e1
  obtain ⟨G2, hGe⟩ : ∃ G2, GG ++ [lm] = G2 := ⟨_, rfl⟩
  rw [hGe] at hr2 e0 e1 hp2 hfx hG2
  have b2 := pulB_B (r := ⟨po, PP.length, pc, bo, BB.length, bc, f0, f1, f2, lo, ln, lc⟩) hr2 hp2
  have bZ := pulB_B (r := ⟨po, PP.length, pc, bo, BB.length, bc, f0, f1, f2, lo, ln, lc⟩) hrg pZ
  have hQ := frF_Q hrg
  have hQ2 := frF_Q hr2
  have bd : ∀ (x : Row) (D : List Int), rowQ x → pullsB D → -400000000000000000 ≤ dotR x D D.length ∧ dotR x D D.length ≤ 400000000000000000 := fun x D hx hD => by
    have := dotR_q hx hD D.length (Nat.le_refl _)
    have := hD.1
    omega
  have u0 := bd _ _ (hQ2.2 tt 0) b2
  have u1 := bd _ _ (hQ2.2 tt 1) b2
  have k0 := bd _ _ (hQ.2 tt 0) bZ
  have k1 := bd _ _ (hQ.2 tt 1) bZ
  have q1 := rng_at (fun j => (dotR ((frF BB G2).h j 0) P2 P2.length, dotR ((frF BB G2).h j 1) P2 P2.length)) htl
  have q2 := rng_at (fun j => (dotR ((frF BB GG).h j 0) Z Z.length, dotR ((frF BB GG).h j 1) Z Z.length)) htl
  change (bHg (frF BB G2) BB.length P2)[tt]? = _ at q1
  change (bHg (frF BB GG) BB.length Z)[tt]? = _ at q2
  have h29 := fun (o2 : Option Addr) (c2 : Nat) (o : Option Addr) (c : Nat) (w' : World) (hP : Rd 1 iF (sV PP.length y1) PP w') (hB : Rd 8 Bm.cs (sV BB.length y2) BB w') (hL : Rd 5 Ld.cs (.slice o2 (ln + 1) c2) G2 w') (hq : Rd 1 iF (.slice o (ln + 1) c) P2 w') =>
    Bears_own ⟨y1.1, PP.length, y1.2, y2.1, BB.length, y2.2, f0, f1, f2, o2, ln + 1, c2⟩ PP BB G2 P2 o c w' ⟨hP, hB, by rw [hG2]; exact hL, rfl, rfl, hG2.symm, by omega, by omega, by omega⟩ (by rw [hP2]; exact hq) (by omega) hr2 ((pulB_fac (fac_eq (r := ⟨y1.1, PP.length, y1.2, y2.1, BB.length, y2.2, f0, f1, f2, o2, ln + 1, c2⟩) (r' := ⟨po, PP.length, pc, bo, BB.length, bc, f0, f1, f2, lo, ln, lc⟩) rfl rfl rfl) G2 P2).trans hp2)
  simp only [hP2] at h29
  have hPn : (bPt (frF BB G2) PP.length P2).length = PP.length := by simp [bPt]
  have hHn : (bHg (frF BB G2) BB.length P2).length = BB.length := by simp [bHg]
  generalize bPt (frF BB G2) PP.length P2 = PU at *
  generalize bHg (frF BB G2) BB.length P2 = HU at *
  generalize bHg (frF BB GG) BB.length Z = HZ at *
  generalize dotR ((frF BB G2).h tt 0) P2 P2.length = u0' at *
  generalize dotR ((frF BB G2).h tt 1) P2 P2.length = u1' at *
  generalize dotR ((frF BB GG).h tt 0) Z Z.length = k0' at *
  generalize dotR ((frF BB GG).h tt 1) Z Z.length = k1' at *
  have hXb := hX.b
  dsimp only at hXb
  obtain ⟨_, adb, rfl, _⟩ := hXb.ptr (by omega)
  have g0 := fun (w' : World) (hb : Below w.heap.size w w') => rd_fld (hXb.below hb) hm 0 (iv m.lo) rfl
  have g1 := fun (w' : World) (hb : Below w.heap.size w w') => rd_fld (hXb.below hb) hm 1 (iv m.hi) rfl
  have hlh1 : 0 ≤ m.lo + m.hi ∧ m.lo + m.hi ≤ 120 := by omega
  have hlh2 : (0 ≤ m.lo ∧ m.lo ≤ 60) ∧ (0 ≤ m.hi ∧ m.hi ≤ 60) := by omega
  have hq0 : 0 ≤ (m.lo + m.hi) / 2 ∧ (m.lo + m.hi) / 2 ≤ 60 := by omega
  generalize m.lo = m1 at *
  generalize m.hi = m2 at *
  obtain ⟨qq, hqq⟩ : ∃ qq, (m1 + m2) / 2 = qq := ⟨_, rfl⟩
  rw [hqq] at hfx hq0
  cases HU with
  | nil => simp at q1
  | cons g HU =>
  refine VC.cutD env mixed 2 0 (fun x : Option Addr × Nat => [(4, .v (.int .u8 pl)), (29, .v (sV BB.length yk)), (33, .v (iv tt)), (35, .v (sV BB.length x)), (36, .v (iv 0))]) (fun _ => []) (fun x w2 => Below w.heap.size w w2 ∧ Rd 2 gF (sV BB.length yk) HZ w2 ∧ Rd 2 gF (sV BB.length x) (g :: HU) w2) (fun x => ∃ ad, x.1 = some ad) (fun _ _ => ⟨rfl, rfl⟩) ?_ ?_
  · clear e0 e1 u0 u1 k0 k1 q1 q2 hyk
    obtain ⟨yd1, yd2⟩ := yd
    obtain ⟨y11, y12⟩ := y1
    obtain ⟨y21, y22⟩ := y2
    dsimp only at h29
    have hne : Z ≠ [] := fun hc => h0 (List.eq_nil_of_length_eq_zero (by rw [hGn, ← lZ, hc]; rfl))
    have h31 := fun (w' : World) (hP : Rd 1 iF (.slice yd1 ln yd2) Z w') => list_own Z yd1 yd2 w' (by rw [lZ]; exact hP) hne (by omega)
    rw [lZ] at h31
    repeat'
     conv => whnf
     first
      | refine zA ?_ | refine zB ?_ | refine zC ?_ | refine zD ?_ | refine zE ?_ | refine zF ?_ | refine zG ?_ | refine zH ?_ | refine zJ ?_ | refine zI ?_ | refine splT ?_ | refine splF ?_ | refine splNot ?_
      | ((first | refine splIn (fun hc => ?_) (fun hc => ?_) | refine splD (fun hc => ?_) (fun hc => ?_) | refine splE (fun hc => ?_) (fun hc => ?_) | refine splNE (fun hc => ?_) (fun hc => ?_)) <;> first | (exfalso; omega) | (exfalso; dsimp only at hc; omega) | skip)
      | refine Exists.intro (α := List Value) [iv m1] ⟨⟨rfl, fun w' hw' => g0 w' hw'.1⟩, ?_⟩
      | refine Exists.intro (α := List Value) [iv m2] ⟨⟨rfl, fun w' hw' => g1 w' hw'.1⟩, ?_⟩
      | (refine quoE (by omega) (by omega) (And.intro (by omega) (by omega)) ?_; rw [hqq])
      | ((with_reducible show CallEv _ _ 31 _ _ _ _ _); refine callO 11 [] (.os 11 12 ln) ln 1 (Z.flatMap iF) 3 rfl (fun β w' _ hbw => (h31 w' hbw.2.2.2.1).mono fun _ _ ⟨b, c, h1, h2, h3, h4⟩ => ⟨b, c, h1, h2, h3, h4⟩) ?_)
      | refine Exists.intro (α := Value) (iv pl) ⟨cv8 pl hpl, ?_⟩
      | ((with_reducible show CallEv _ _ 29 _ _ _ _ _); refine callR [16, 17, 18, 19] [9, 14] (brM 16 PU (g :: HU)) (brS 16 PP.length (g :: HU)) rfl (fun i b hi => by simp [brM, oM] at hi; rcases hi with ⟨rfl, _⟩ | ⟨rfl, _⟩ <;> decide) (fun β w' hbk hbw => (h29 (some ⟨β 9, 0, none⟩) (β 10) (some ⟨β 14, 0, none⟩) (β 15) w' hbw.2.1 hbw.2.2.1 (Rd.of_owns (sz := 5) (f := Ld.cs) (fun _ => rfl) hfx hG2.symm (hbk 9 (by simp) _ rfl)) (Rd.of_owns (sz := 1) (f := iF) (fun _ => rfl) hfp hP2.symm (hbk 14 (by simp) _ rfl))).mono fun e w2 h => mv_gen (nb := 16) (k := 4) rfl (br_V 16 _ _) (br_m 16 _ _) h) ?_)
    all_goals first | (exfalso; omega) | skip
    exact ⟨rfl, Dis.mk2 [18] (fun i hi => by simp at hi; subst hi; exact ⟨_, rfl, rfl⟩) fun β w1 hb hw => ⟨(some ⟨β 18, 0, none⟩, β 19), ⟨_, rfl⟩, ⟨⟨_, rfl, rfl⟩, ⟨_, rfl, rfl⟩, ⟨_, rfl, rfl⟩, ⟨_, rfl, by rw [← hHn]; rfl⟩, ⟨_, rfl, rfl⟩, trivial⟩, trivial, fun w2 h2 hb2 => ⟨h2.1, h2.2.2.2.2, Rd.of_owns (sz := 2) (f := gF) (fun _ => rfl) rfl hHn.symm (by rw [← hHn]; exact hb2 18 (by simp) _ rfl)⟩⟩⟩
  · rintro ⟨x1, x2⟩ ⟨ax, hax⟩
    dsimp only at hax
    subst hax
    obtain ⟨yk1, yk2⟩ := yk
    obtain ⟨ak, hak⟩ := hyk
    dsimp only at hak
    subst hak
    refine VC.of env mixed ?_
    repeat'
     conv => whnf
     first
      | refine zA ?_ | refine zB ?_ | refine zC ?_ | refine zD ?_ | refine zE ?_ | refine zF ?_ | refine zG ?_ | refine zH ?_ | refine zJ ?_ | refine zI ?_ | refine splT ?_ | refine splF ?_ | refine splNot ?_
      | ((first | refine splIn (fun hc => ?_) (fun hc => ?_) | refine splD (fun hc => ?_) (fun hc => ?_) | refine splE (fun hc => ?_) (fun hc => ?_) | refine splNE (fun hc => ?_) (fun hc => ?_)) <;> first | (exfalso; omega) | (exfalso; dsimp only at hc; omega) | skip)
      | refine Exists.intro (α := Value) (iv pl) ⟨cv8 pl hpl, ?_⟩
      | refine idxP env rfl rfl rfl rfl (And.intro (by omega) (by omega)) ?_
      | refine Exists.intro (α := List Value) [iv u0'] ⟨⟨rfl, fun w' hw' => rd_fld hw'.2.2 q1 0 (iv u0') rfl⟩, ?_⟩
      | refine Exists.intro (α := List Value) [iv u1'] ⟨⟨rfl, fun w' hw' => rd_fld hw'.2.2 q1 1 (iv u1') rfl⟩, ?_⟩
      | refine Exists.intro (α := List Value) [iv k0'] ⟨⟨rfl, fun w' hw' => rd_fld hw'.2.1 q2 0 (iv k0') rfl⟩, ?_⟩
      | refine Exists.intro (α := List Value) [iv k1'] ⟨⟨rfl, fun w' hw' => rd_fld hw'.2.1 q2 1 (iv k1') rfl⟩, ?_⟩
      | ((with_reducible show CallEv _ _ 16 _ _ _ _ _); refine callE (k := 16) (fun β w' hbw => awake_ok _) ?_)
    all_goals first | (exfalso; omega) | exact ⟨fun β => rfl, fun w' h => h.1⟩

set_option maxHeartbeats 16000000 in
set_option maxRecDepth 100000 in
theorem RiggingLevers_ok (r : Rig) (PP : List Int) (BB : List Bm) (LL : List Ld) (W1 W2 : List Int) (wo xo : Option Addr) (wc xc : Nat) (bm pl : Int) (w : World) (hX : RigX r PP BB LL w) (hW1 : Rd 1 wF (.slice wo W1.length wc) W1 w) (hW2 : Rd 1 wF (.slice xo W2.length xc) W2 w) (hw1 : W1.length ≤ 9223372036854775807) (hw2 : W2.length ≤ 9223372036854775807) (hb1 : ∀ x ∈ W1, 0 ≤ x ∧ x ≤ 65535) (hb2 : ∀ x ∈ W2, 0 ≤ x ∧ x ≤ 65535) (hbm : 0 ≤ bm ∧ bm ≤ 255) (hpl : 0 ≤ pl ∧ pl ≤ 255) :
    Calls Try.prog 5 #[r.v, .slice wo W1.length wc, .slice xo W2.length xc, .int .u8 bm, .int .u8 pl] w fun e w' => e = .returned (.bool true) ∧ Below w.heap.size w w' := by
  have h27 := fun (w' : World) (hb : Below w.heap.size w w') => Right_ok r PP BB LL w' (hX.below hb)
  cases hr : rigOk r.f0 r.f1 r.f2 PP BB LL with
  | false =>
    rw [hr] at h27
    obtain ⟨po, pn, pc, bo, bn, bc, f0, f1, f2, lo, ln, lc⟩ := r
    refine calls_val env mixed Try.func5 has5 Try.ntmps5 [.agg #[.slice po pn pc, .slice bo bn bc, iv f0, iv f1, iv f2, .slice lo ln lc], .slice wo W1.length wc, .slice xo W2.length xc, .int .u8 bm, .int .u8 pl] (by simp) ?_
    repeat'
     conv => whnf
     first
      | refine zA ?_ | refine zB ?_ | refine zC ?_ | refine zD ?_ | refine zE ?_ | refine zF ?_ | refine zG ?_ | refine zH ?_ | refine zJ ?_ | refine zI ?_ | refine splT ?_ | refine splF ?_ | refine splNot ?_
      | ((first | refine splIn (fun hc => ?_) (fun hc => ?_) | refine splD (fun hc => ?_) (fun hc => ?_) | refine splE (fun hc => ?_) (fun hc => ?_) | refine splNE (fun hc => ?_) (fun hc => ?_)) <;> first | (exfalso; omega) | (exfalso; dsimp only at hc; omega) | skip)
      | ((with_reducible show CallEv _ _ 27 _ _ _ _ _); refine callE (k := 27) (fun β w' hbw => h27 _ hbw) ?_)
      | ((with_reducible show CallEv _ _ 16 _ _ _ _ _); refine callE (k := 16) (fun β w' hbw => awake_ok _) ?_)
    all_goals first | (exfalso; omega) | exact ⟨fun β => rfl, fun w' h => h⟩
  | true =>
  rw [hr] at h27
  have hri := rigOk_iff.1 hr
  have hm12 := hri.2.2.1
  have hl20 := hri.2.2.2.2.1
  have hP1 := hri.1.1
  have hin := hX.rin (by omega) (by omega) (by omega)
  have h30 := fun (p0 : Int) (PP' : List Int) (hp : PP = p0 :: PP') (w' : World) (hb : Below w.heap.size w w') => Rig_own r p0 PP' BB LL w' (by rw [← hp]; exact hin.below hb) (by omega) (by omega)
  obtain ⟨po, pn, pc, bo, bn, bc, f0, f1, f2, lo, ln, lc⟩ := r
  dsimp only at h30 h27 hr
  refine calls_valV env mixed Try.func5 has5 Try.ntmps5 [.agg #[.slice po pn pc, .slice bo bn bc, iv f0, iv f1, iv f2, .slice lo ln lc], .slice wo W1.length wc, .slice xo W2.length xc, .int .u8 bm, .int .u8 pl] (by simp) ?_
  cases LL with
  | nil =>
    have hB := fun (y : (Option Addr × Nat) × (Option Addr × Nat)) => LevBn po bo lo pn pc bn bc ln lc f0 f1 f2 PP BB ([] : List Ld) ([] : List Ld) w hX hr rfl 0 rfl W1 W2 wo xo wc xc hW1 hW2 hw1 hw2 hb1 hb2 bm pl hbm hpl y.1 y.2
      (fun A B C Z u v hA hB hC hZ hu hv ya yb yc yd => LevCn po bo lo pn pc bn bc ln lc f0 f1 f2 PP BB ([] : List Ld) ([] : List Ld) w hX hr rfl 0 rfl bm pl hbm y.1 y.2 rfl A B C Z u v hA hB hC hZ hu hv ya yb yc yd
        (fun tt m hm hpar hn20 yk hyk => LevDn po bo lo pn pc bn bc ln lc f0 f1 f2 PP BB ([] : List Ld) ([] : List Ld) w hX hr rfl 0 rfl pl hpl y.1 y.2 rfl Z hZ tt m hm hpar hn20 yd yk hyk))
    refine VC.cutD env mixed 4 8 (fun _ : (Option Addr × Nat) × (Option Addr × Nat) => [(1, .v (.slice wo W1.length wc)), (2, .v (.slice xo W2.length xc)), (3, .v (.int .u8 bm)), (4, .v (.int .u8 pl)), (5, .ptr 0 0), (11, .ptr 7 0)]) (fun y => [(0, .cells [.v (.slice po pn pc), .v (.slice bo bn bc), .v (iv f0), .v (iv f1), .v (iv f2), .v (.slice lo ln lc)] 48), (7, .cells [.v (sV PP.length y.1), .v (sV BB.length y.2), .v (iv f0), .v (iv f1), .v (iv f2), .v (.slice none 0 0)] 58)]) (fun y w2 => Below w.heap.size w w2 ∧ Rd 1 iF (sV PP.length y.1) PP w2 ∧ Rd 8 Bm.cs (sV BB.length y.2) BB w2) (fun _ => True) (fun _ _ => ⟨rfl, rfl⟩) ?_ (fun y _ => hB y)
    clear hB
    cases PP with
    | nil => simp at hP1
    | cons p0 PP =>
    cases BB with
    | nil =>
      skip
      repeat'
       conv => whnf
       first
        | refine zA ?_ | refine zB ?_ | refine zC ?_ | refine zD ?_ | refine zE ?_ | refine zF ?_ | refine zG ?_ | refine zH ?_ | refine zJ ?_ | refine zI ?_ | refine splT ?_ | refine splF ?_ | refine splNot ?_
        | ((first | refine splIn (fun hc => ?_) (fun hc => ?_) | refine splD (fun hc => ?_) (fun hc => ?_) | refine splE (fun hc => ?_) (fun hc => ?_) | refine splNE (fun hc => ?_) (fun hc => ?_)) <;> first | (exfalso; omega) | (exfalso; dsimp only at hc; omega) | skip)
        | ((with_reducible show CallEv _ _ 27 _ _ _ _ _); refine callE (k := 27) (fun β w' hbw => h27 _ hbw) ?_)
        | ((with_reducible show CallEv _ _ 30 _ _ _ _ _); refine callR [1, 2, 3, 4, 5, 6] [] (rigM 1 (p0 :: PP) ([] : List Bm) ([] : List Ld)) (rigS 1 (PP.length + 1) ([] : List Bm) ([] : List Ld) f0 f1 f2) rfl (fun i b hi => by rcases rigM_mem hi with ⟨rfl, _⟩ | ⟨rfl, _⟩ | ⟨rfl, _⟩ <;> decide) (fun β w' _ hbw => (h30 p0 PP rfl w' hbw).mono fun e w2 h => rig_mv h) ?_)
      all_goals first | (exfalso; omega) | skip
      refine loopN 8 (fun k : Nat => [(1, .v (.slice wo W1.length wc)), (2, .v (.slice xo W2.length xc)), (3, .v (.int .u8 bm)), (4, .v (.int .u8 pl)), (5, .ptr 0 0), (11, .ptr 7 0), (12, .v (iv 0))]) (fun _ => [(0, .cells [.v (.slice po pn pc), .v (.slice bo bn bc), .v (iv f0), .v (iv f1), .v (iv f2), .v (.slice lo ln lc)] 48), (7, .cells [.os 1 2 (PP.length + 1), .v (.slice none 0 0), .v (iv f0), .v (iv f1), .v (iv f2), .v (.slice none 0 0)] 58), (1, .own 2 (PP.length + 1) 1 ((p0 :: PP).flatMap iF) 3)]) (fun _ => True) (fun _ => 0) 0 trivial ⟨rfl, rfl, rfl, rfl, rfl, rfl, rfl, trivial⟩ ⟨rfl, rfl, rfl, trivial⟩ (fun _ _ => ⟨rfl, rfl⟩) ?_
      intro k _
      repeat'
       conv => whnf
       first
        | refine zA ?_ | refine zB ?_ | refine zC ?_ | refine zD ?_ | refine zE ?_ | refine zF ?_ | refine zG ?_ | refine zH ?_ | refine zJ ?_ | refine zI ?_ | refine splT ?_ | refine splF ?_ | refine splNot ?_
        | ((first | refine splIn (fun hc => ?_) (fun hc => ?_) | refine splD (fun hc => ?_) (fun hc => ?_) | refine splE (fun hc => ?_) (fun hc => ?_) | refine splNE (fun hc => ?_) (fun hc => ?_)) <;> first | (exfalso; omega) | (exfalso; dsimp only at hc; omega) | skip)
      all_goals first | (exfalso; omega) | skip
      exact ⟨rfl, Dis.mk2 [1] (fun i hi => by simp at hi; subst hi; exact ⟨_, rfl, rfl⟩) fun β w1 hb hw => ⟨((some ⟨β 1, 0, none⟩, β 2), (none, 0)), trivial, ⟨⟨_, rfl, rfl⟩, ⟨_, rfl, rfl⟩, ⟨_, rfl, rfl⟩, ⟨_, rfl, rfl⟩, ⟨_, rfl, rfl⟩, ⟨_, rfl, rfl⟩, trivial⟩, ⟨⟨rfl, _, rfl, fun _ => rfl, fun _ _ h => h⟩, ⟨rfl, _, rfl, fun _ => rfl, fun _ _ h => h⟩, trivial⟩, fun w2 h2 hb2 => ⟨h2, Rd.of_owns (sz := 1) (f := iF) (fun _ => rfl) rfl rfl (hb2 1 (by simp) _ rfl), .inl ⟨rfl, rfl⟩⟩⟩⟩
    | cons b0 BB =>
      skip
      repeat'
       conv => whnf
       first
        | refine zA ?_ | refine zB ?_ | refine zC ?_ | refine zD ?_ | refine zE ?_ | refine zF ?_ | refine zG ?_ | refine zH ?_ | refine zJ ?_ | refine zI ?_ | refine splT ?_ | refine splF ?_ | refine splNot ?_
        | ((first | refine splIn (fun hc => ?_) (fun hc => ?_) | refine splD (fun hc => ?_) (fun hc => ?_) | refine splE (fun hc => ?_) (fun hc => ?_) | refine splNE (fun hc => ?_) (fun hc => ?_)) <;> first | (exfalso; omega) | (exfalso; dsimp only at hc; omega) | skip)
        | ((with_reducible show CallEv _ _ 27 _ _ _ _ _); refine callE (k := 27) (fun β w' hbw => h27 _ hbw) ?_)
        | ((with_reducible show CallEv _ _ 30 _ _ _ _ _); refine callR [1, 2, 3, 4, 5, 6] [] (rigM 1 (p0 :: PP) (b0 :: BB) ([] : List Ld)) (rigS 1 (PP.length + 1) (b0 :: BB) ([] : List Ld) f0 f1 f2) rfl (fun i b hi => by rcases rigM_mem hi with ⟨rfl, _⟩ | ⟨rfl, _⟩ | ⟨rfl, _⟩ <;> decide) (fun β w' _ hbw => (h30 p0 PP rfl w' hbw).mono fun e w2 h => rig_mv h) ?_)
      all_goals first | (exfalso; omega) | skip
      refine loopN 8 (fun k : Nat => [(1, .v (.slice wo W1.length wc)), (2, .v (.slice xo W2.length xc)), (3, .v (.int .u8 bm)), (4, .v (.int .u8 pl)), (5, .ptr 0 0), (11, .ptr 7 0), (12, .v (iv 0))]) (fun _ => [(0, .cells [.v (.slice po pn pc), .v (.slice bo bn bc), .v (iv f0), .v (iv f1), .v (iv f2), .v (.slice lo ln lc)] 48), (7, .cells [.os 1 2 (PP.length + 1), .os 3 4 (BB.length + 1), .v (iv f0), .v (iv f1), .v (iv f2), .v (.slice none 0 0)] 58), (1, .own 2 (PP.length + 1) 1 ((p0 :: PP).flatMap iF) 3), (3, .own 4 (BB.length + 1) 8 ((b0 :: BB).flatMap Bm.cs) 107)]) (fun _ => True) (fun _ => 0) 0 trivial ⟨rfl, rfl, rfl, rfl, rfl, rfl, rfl, trivial⟩ ⟨rfl, rfl, rfl, rfl, trivial⟩ (fun _ _ => ⟨rfl, rfl⟩) ?_
      intro k _
      repeat'
       conv => whnf
       first
        | refine zA ?_ | refine zB ?_ | refine zC ?_ | refine zD ?_ | refine zE ?_ | refine zF ?_ | refine zG ?_ | refine zH ?_ | refine zJ ?_ | refine zI ?_ | refine splT ?_ | refine splF ?_ | refine splNot ?_
        | ((first | refine splIn (fun hc => ?_) (fun hc => ?_) | refine splD (fun hc => ?_) (fun hc => ?_) | refine splE (fun hc => ?_) (fun hc => ?_) | refine splNE (fun hc => ?_) (fun hc => ?_)) <;> first | (exfalso; omega) | (exfalso; dsimp only at hc; omega) | skip)
      all_goals first | (exfalso; omega) | skip
      exact ⟨rfl, Dis.mk2 [1, 3] (fun i hi => by simp at hi; rcases hi with rfl | rfl <;> exact ⟨_, rfl, rfl⟩) fun β w1 hb hw => ⟨((some ⟨β 1, 0, none⟩, β 2), (some ⟨β 3, 0, none⟩, β 4)), trivial, ⟨⟨_, rfl, rfl⟩, ⟨_, rfl, rfl⟩, ⟨_, rfl, rfl⟩, ⟨_, rfl, rfl⟩, ⟨_, rfl, rfl⟩, ⟨_, rfl, rfl⟩, trivial⟩, ⟨⟨rfl, _, rfl, fun _ => rfl, fun _ _ h => h⟩, ⟨rfl, _, rfl, fun _ => rfl, fun _ _ h => h⟩, trivial⟩, fun w2 h2 hb2 => ⟨h2, Rd.of_owns (sz := 1) (f := iF) (fun _ => rfl) rfl rfl (hb2 1 (by simp) _ rfl), Rd.of_owns (sz := 8) (f := Bm.cs) (fun _ => rfl) rfl rfl (hb2 3 (by simp) _ rfl)⟩⟩⟩
  | cons l0 L1 =>
    have hB := fun (y : (Option Addr × Nat) × (Option Addr × Nat)) => LevBc po bo lo pn pc bn bc ln lc f0 f1 f2 PP BB (l0 :: L1) ((l0 :: L1).map gl) w hX hr rfl (L1.length + 1) rfl W1 W2 wo xo wc xc hW1 hW2 hw1 hw2 hb1 hb2 bm pl hbm hpl y.1 y.2
      (fun A B C Z u v hA hB hC hZ hu hv ya yb yc yd => LevCc po bo lo pn pc bn bc ln lc f0 f1 f2 PP BB (l0 :: L1) ((l0 :: L1).map gl) w hX hr rfl (L1.length + 1) rfl bm pl hbm y.1 y.2 A B C Z u v hA hB hC hZ hu hv ya yb yc yd
        (fun tt m hm hpar hn20 yk hyk => LevDc po bo lo pn pc bn bc ln lc f0 f1 f2 PP BB (l0 :: L1) ((l0 :: L1).map gl) w hX hr rfl (L1.length + 1) rfl pl hpl y.1 y.2 (by simp) Z hZ tt m hm hpar hn20 yd yk hyk))
    refine VC.cutD env mixed 4 8 (fun _ : (Option Addr × Nat) × (Option Addr × Nat) => [(1, .v (.slice wo W1.length wc)), (2, .v (.slice xo W2.length xc)), (3, .v (.int .u8 bm)), (4, .v (.int .u8 pl)), (5, .ptr 0 0), (11, .ptr 7 0)]) (fun y => [(0, .cells [.v (.slice po pn pc), .v (.slice bo bn bc), .v (iv f0), .v (iv f1), .v (iv f2), .v (.slice lo ln lc)] 48), (7, .cells [.v (sV PP.length y.1), .v (sV BB.length y.2), .v (iv f0), .v (iv f1), .v (iv f2), .os 5 6 (L1.length + 1)] 58), (5, .own 6 (L1.length + 1) 5 (((l0 :: L1).map gl).flatMap Ld.cs) 69)]) (fun y w2 => Below w.heap.size w w2 ∧ Rd 1 iF (sV PP.length y.1) PP w2 ∧ Rd 8 Bm.cs (sV BB.length y.2) BB w2) (fun _ => True) (fun _ _ => ⟨rfl, rfl⟩) ?_ (fun y _ => hB y)
    clear hB
    cases PP with
    | nil => simp at hP1
    | cons p0 PP =>
    cases BB with
    | nil =>
      skip
      repeat'
       conv => whnf
       first
        | refine zA ?_ | refine zB ?_ | refine zC ?_ | refine zD ?_ | refine zE ?_ | refine zF ?_ | refine zG ?_ | refine zH ?_ | refine zJ ?_ | refine zI ?_ | refine splT ?_ | refine splF ?_ | refine splNot ?_
        | ((first | refine splIn (fun hc => ?_) (fun hc => ?_) | refine splD (fun hc => ?_) (fun hc => ?_) | refine splE (fun hc => ?_) (fun hc => ?_) | refine splNE (fun hc => ?_) (fun hc => ?_)) <;> first | (exfalso; omega) | (exfalso; dsimp only at hc; omega) | skip)
        | ((with_reducible show CallEv _ _ 27 _ _ _ _ _); refine callE (k := 27) (fun β w' hbw => h27 _ hbw) ?_)
        | ((with_reducible show CallEv _ _ 30 _ _ _ _ _); refine callR [1, 2, 3, 4, 5, 6] [] (rigM 1 (p0 :: PP) ([] : List Bm) (l0 :: L1)) (rigS 1 (PP.length + 1) ([] : List Bm) (l0 :: L1) f0 f1 f2) rfl (fun i b hi => by rcases rigM_mem hi with ⟨rfl, _⟩ | ⟨rfl, _⟩ | ⟨rfl, _⟩ <;> decide) (fun β w' _ hbw => (h30 p0 PP rfl w' hbw).mono fun e w2 h => rig_mv h) ?_)
      all_goals first | (exfalso; omega) | skip
      refine loopN 8 (fun k : Nat => [(1, .v (.slice wo W1.length wc)), (2, .v (.slice xo W2.length xc)), (3, .v (.int .u8 bm)), (4, .v (.int .u8 pl)), (5, .ptr 0 0), (11, .ptr 7 0), (12, .v (iv k))]) (fun k => [(0, .cells [.v (.slice po pn pc), .v (.slice bo bn bc), .v (iv f0), .v (iv f1), .v (iv f2), .v (.slice lo ln lc)] 48), (7, .cells [.os 1 2 (PP.length + 1), .v (.slice none 0 0), .v (iv f0), .v (iv f1), .v (iv f2), .os 5 6 (L1.length + 1)] 58), (1, .own 2 (PP.length + 1) 1 ((p0 :: PP).flatMap iF) 3), (5, .own 6 (L1.length + 1) 5 ((((l0 :: L1).take k).map gl ++ (l0 :: L1).drop k).flatMap Ld.cs) 69)]) (fun k => k ≤ L1.length + 1) (fun k => L1.length + 1 - k) 0 (Nat.zero_le _) ⟨rfl, rfl, rfl, rfl, rfl, rfl, rfl, trivial⟩ ⟨rfl, rfl, rfl, rfl, trivial⟩ (fun _ _ => ⟨rfl, rfl⟩) ?_
      intro k hk
      simp only [List.length_cons] at hl20
      rcases Nat.lt_or_ge k (L1.length + 1) with hkl | hkl
      · obtain ⟨l, hl⟩ : ∃ l, (l0 :: L1)[k]? = some l := ⟨_, List.getElem?_eq_getElem (by simpa using hkl)⟩
        have hd : (l0 :: L1).drop k = l :: (l0 :: L1).drop (k + 1) := by
          rw [List.drop_eq_getElem_cons (by simpa using hkl)]
          rw [List.getElem?_eq_getElem (by simpa using hkl), Option.some.injEq] at hl
          rw [hl]
        obtain ⟨X, hXe⟩ : ∃ X, ((l0 :: L1).take k).map gl = X := ⟨_, rfl⟩
        obtain ⟨Y, hYe⟩ : ∃ Y, (l0 :: L1).drop (k + 1) = Y := ⟨_, rfl⟩
        have hXl : X.length = k := by rw [← hXe, List.length_map, List.length_take, List.length_cons]; omega
        have hnx : (((l0 :: L1).take (k + 1)).map gl ++ (l0 :: L1).drop (k + 1)) = X ++ ⟨l.beam, l.at', l.kind, 0, 1000000⟩ :: Y := by
          rw [List.take_add_one, hl, List.map_append, List.append_assoc, hXe, hYe]; rfl
        rw [hd, hXe, hYe]
        repeat'
         conv => whnf
         first
          | refine zA ?_ | refine zB ?_ | refine zC ?_ | refine zD ?_ | refine zE ?_ | refine zF ?_ | refine zG ?_ | refine zH ?_ | refine zJ ?_ | refine zI ?_ | refine splT ?_ | refine splF ?_ | refine splNot ?_
          | ((first | refine splIn (fun hc => ?_) (fun hc => ?_) | refine splD (fun hc => ?_) (fun hc => ?_) | refine splE (fun hc => ?_) (fun hc => ?_) | refine splNE (fun hc => ?_) (fun hc => ?_)) <;> first | (exfalso; omega) | (exfalso; dsimp only at hc; omega) | skip)
          | (refine And.intro (a := _ + _ ≤ List.length _) (st_len' hXl 3 (by omega) _) ?_; rw [st_lo' hXl])
          | (refine And.intro (a := _ + _ ≤ List.length _) (st_len' hXl 4 (by omega) _) ?_; rw [st_hi' hXl])
        all_goals first | (exfalso; omega) | exact ⟨k + 1, by omega, by omega, Ent.weak rfl ⟨rfl, rfl, rfl, rfl, rfl, rfl, rfl, trivial⟩ ⟨rfl, rfl, rfl, by rw [hnx]; rfl, trivial⟩ fun _ h => h⟩
      · obtain rfl : k = L1.length + 1 := by omega
        rw [List.take_of_length_le (by simp), List.drop_eq_nil_of_le (by simp), List.append_nil]
        repeat'
         conv => whnf
         first
          | refine zA ?_ | refine zB ?_ | refine zC ?_ | refine zD ?_ | refine zE ?_ | refine zF ?_ | refine zG ?_ | refine zH ?_ | refine zJ ?_ | refine zI ?_ | refine splT ?_ | refine splF ?_ | refine splNot ?_
          | ((first | refine splIn (fun hc => ?_) (fun hc => ?_) | refine splD (fun hc => ?_) (fun hc => ?_) | refine splE (fun hc => ?_) (fun hc => ?_) | refine splNE (fun hc => ?_) (fun hc => ?_)) <;> first | (exfalso; omega) | (exfalso; dsimp only at hc; omega) | skip)
        all_goals first | (exfalso; omega) | skip
        exact ⟨rfl, Dis.mk2 [1] (fun i hi => by simp at hi; subst hi; exact ⟨_, rfl, rfl⟩) fun β w1 hb hw => ⟨((some ⟨β 1, 0, none⟩, β 2), (none, 0)), trivial, ⟨⟨_, rfl, rfl⟩, ⟨_, rfl, rfl⟩, ⟨_, rfl, rfl⟩, ⟨_, rfl, rfl⟩, ⟨_, rfl, rfl⟩, ⟨_, rfl, rfl⟩, trivial⟩, ⟨⟨rfl, _, rfl, fun _ => rfl, fun _ _ h => h⟩, ⟨rfl, _, rfl, fun _ => rfl, fun _ _ h => h⟩, ⟨rfl, _, rfl, fun _ => rfl, fun _ _ h => h⟩, trivial⟩, fun w2 h2 hb2 => ⟨h2, Rd.of_owns (sz := 1) (f := iF) (fun _ => rfl) rfl rfl (hb2 1 (by simp) _ rfl), .inl ⟨rfl, rfl⟩⟩⟩⟩
    | cons b0 BB =>
      skip
      repeat'
       conv => whnf
       first
        | refine zA ?_ | refine zB ?_ | refine zC ?_ | refine zD ?_ | refine zE ?_ | refine zF ?_ | refine zG ?_ | refine zH ?_ | refine zJ ?_ | refine zI ?_ | refine splT ?_ | refine splF ?_ | refine splNot ?_
        | ((first | refine splIn (fun hc => ?_) (fun hc => ?_) | refine splD (fun hc => ?_) (fun hc => ?_) | refine splE (fun hc => ?_) (fun hc => ?_) | refine splNE (fun hc => ?_) (fun hc => ?_)) <;> first | (exfalso; omega) | (exfalso; dsimp only at hc; omega) | skip)
        | ((with_reducible show CallEv _ _ 27 _ _ _ _ _); refine callE (k := 27) (fun β w' hbw => h27 _ hbw) ?_)
        | ((with_reducible show CallEv _ _ 30 _ _ _ _ _); refine callR [1, 2, 3, 4, 5, 6] [] (rigM 1 (p0 :: PP) (b0 :: BB) (l0 :: L1)) (rigS 1 (PP.length + 1) (b0 :: BB) (l0 :: L1) f0 f1 f2) rfl (fun i b hi => by rcases rigM_mem hi with ⟨rfl, _⟩ | ⟨rfl, _⟩ | ⟨rfl, _⟩ <;> decide) (fun β w' _ hbw => (h30 p0 PP rfl w' hbw).mono fun e w2 h => rig_mv h) ?_)
      all_goals first | (exfalso; omega) | skip
      refine loopN 8 (fun k : Nat => [(1, .v (.slice wo W1.length wc)), (2, .v (.slice xo W2.length xc)), (3, .v (.int .u8 bm)), (4, .v (.int .u8 pl)), (5, .ptr 0 0), (11, .ptr 7 0), (12, .v (iv k))]) (fun k => [(0, .cells [.v (.slice po pn pc), .v (.slice bo bn bc), .v (iv f0), .v (iv f1), .v (iv f2), .v (.slice lo ln lc)] 48), (7, .cells [.os 1 2 (PP.length + 1), .os 3 4 (BB.length + 1), .v (iv f0), .v (iv f1), .v (iv f2), .os 5 6 (L1.length + 1)] 58), (1, .own 2 (PP.length + 1) 1 ((p0 :: PP).flatMap iF) 3), (3, .own 4 (BB.length + 1) 8 ((b0 :: BB).flatMap Bm.cs) 107), (5, .own 6 (L1.length + 1) 5 ((((l0 :: L1).take k).map gl ++ (l0 :: L1).drop k).flatMap Ld.cs) 69)]) (fun k => k ≤ L1.length + 1) (fun k => L1.length + 1 - k) 0 (Nat.zero_le _) ⟨rfl, rfl, rfl, rfl, rfl, rfl, rfl, trivial⟩ ⟨rfl, rfl, rfl, rfl, rfl, trivial⟩ (fun _ _ => ⟨rfl, rfl⟩) ?_
      intro k hk
      simp only [List.length_cons] at hl20
      rcases Nat.lt_or_ge k (L1.length + 1) with hkl | hkl
      · obtain ⟨l, hl⟩ : ∃ l, (l0 :: L1)[k]? = some l := ⟨_, List.getElem?_eq_getElem (by simpa using hkl)⟩
        have hd : (l0 :: L1).drop k = l :: (l0 :: L1).drop (k + 1) := by
          rw [List.drop_eq_getElem_cons (by simpa using hkl)]
          rw [List.getElem?_eq_getElem (by simpa using hkl), Option.some.injEq] at hl
          rw [hl]
        obtain ⟨X, hXe⟩ : ∃ X, ((l0 :: L1).take k).map gl = X := ⟨_, rfl⟩
        obtain ⟨Y, hYe⟩ : ∃ Y, (l0 :: L1).drop (k + 1) = Y := ⟨_, rfl⟩
        have hXl : X.length = k := by rw [← hXe, List.length_map, List.length_take, List.length_cons]; omega
        have hnx : (((l0 :: L1).take (k + 1)).map gl ++ (l0 :: L1).drop (k + 1)) = X ++ ⟨l.beam, l.at', l.kind, 0, 1000000⟩ :: Y := by
          rw [List.take_add_one, hl, List.map_append, List.append_assoc, hXe, hYe]; rfl
        rw [hd, hXe, hYe]
        repeat'
         conv => whnf
         first
          | refine zA ?_ | refine zB ?_ | refine zC ?_ | refine zD ?_ | refine zE ?_ | refine zF ?_ | refine zG ?_ | refine zH ?_ | refine zJ ?_ | refine zI ?_ | refine splT ?_ | refine splF ?_ | refine splNot ?_
          | ((first | refine splIn (fun hc => ?_) (fun hc => ?_) | refine splD (fun hc => ?_) (fun hc => ?_) | refine splE (fun hc => ?_) (fun hc => ?_) | refine splNE (fun hc => ?_) (fun hc => ?_)) <;> first | (exfalso; omega) | (exfalso; dsimp only at hc; omega) | skip)
          | (refine And.intro (a := _ + _ ≤ List.length _) (st_len' hXl 3 (by omega) _) ?_; rw [st_lo' hXl])
          | (refine And.intro (a := _ + _ ≤ List.length _) (st_len' hXl 4 (by omega) _) ?_; rw [st_hi' hXl])
        all_goals first | (exfalso; omega) | exact ⟨k + 1, by omega, by omega, Ent.weak rfl ⟨rfl, rfl, rfl, rfl, rfl, rfl, rfl, trivial⟩ ⟨rfl, rfl, rfl, rfl, by rw [hnx]; rfl, trivial⟩ fun _ h => h⟩
      · obtain rfl : k = L1.length + 1 := by omega
        rw [List.take_of_length_le (by simp), List.drop_eq_nil_of_le (by simp), List.append_nil]
        repeat'
         conv => whnf
         first
          | refine zA ?_ | refine zB ?_ | refine zC ?_ | refine zD ?_ | refine zE ?_ | refine zF ?_ | refine zG ?_ | refine zH ?_ | refine zJ ?_ | refine zI ?_ | refine splT ?_ | refine splF ?_ | refine splNot ?_
          | ((first | refine splIn (fun hc => ?_) (fun hc => ?_) | refine splD (fun hc => ?_) (fun hc => ?_) | refine splE (fun hc => ?_) (fun hc => ?_) | refine splNE (fun hc => ?_) (fun hc => ?_)) <;> first | (exfalso; omega) | (exfalso; dsimp only at hc; omega) | skip)
        all_goals first | (exfalso; omega) | skip
        exact ⟨rfl, Dis.mk2 [1, 3] (fun i hi => by simp at hi; rcases hi with rfl | rfl <;> exact ⟨_, rfl, rfl⟩) fun β w1 hb hw => ⟨((some ⟨β 1, 0, none⟩, β 2), (some ⟨β 3, 0, none⟩, β 4)), trivial, ⟨⟨_, rfl, rfl⟩, ⟨_, rfl, rfl⟩, ⟨_, rfl, rfl⟩, ⟨_, rfl, rfl⟩, ⟨_, rfl, rfl⟩, ⟨_, rfl, rfl⟩, trivial⟩, ⟨⟨rfl, _, rfl, fun _ => rfl, fun _ _ h => h⟩, ⟨rfl, _, rfl, fun _ => rfl, fun _ _ h => h⟩, ⟨rfl, _, rfl, fun _ => rfl, fun _ _ h => h⟩, trivial⟩, fun w2 h2 hb2 => ⟨h2, Rd.of_owns (sz := 1) (f := iF) (fun _ => rfl) rfl rfl (hb2 1 (by simp) _ rfl), Rd.of_owns (sz := 8) (f := Bm.cs) (fun _ => rfl) rfl rfl (hb2 3 (by simp) _ rfl)⟩⟩⟩
end Go.Proofs.Ytaciigegbgnadaa
