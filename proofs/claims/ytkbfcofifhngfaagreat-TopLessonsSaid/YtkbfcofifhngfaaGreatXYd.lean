/- Part 4 of the proof: texts merged. -/
import Derived.Test.YtkbfcofifhngfaaGreatXYc
set_option maxHeartbeats 8000000
set_option maxRecDepth 100000
set_option linter.unusedSectionVars false
set_option linter.unusedSimpArgs false
set_option linter.unusedVariables false
namespace Go.Proofs.YtkbfcofifhngfaaGreat
open Go Tx Go.RowKit
theorem tB_lk {nt N : Nat} : ∀ {t : List (Nat × SV)}, tB nt N t = true → ∀ k s, lk t k = some s → s.lt N = true
 | [], _, k, s, h => by cases h
 | (j, x) :: r, h, k, s, hl => by
  simp only [tB, Bool.and_eq_true] at h
  by_cases hk : k = j
  · subst hk; rw [lk_cons_eq] at hl; cases hl; exact h.1.2
  · rw [lk_cons_ne hk] at hl; exact tB_lk h.2 k s hl
theorem top150 (sl ro su : Int) (go to : Option Addr) (gc tc : Nat) (G : List Rw) (T : List Tc) (D : SD) (w : World) (h : ScIn ⟨sl, ro, su, go, gc, G, to, tc, T⟩ w) (hB : ScB ⟨sl, ro, su, go, gc, G, to, tc, T⟩) (hD : Sc.d ⟨sl, ro, su, go, gc, G, to, tc, T⟩ = D) (hv : scOk D = true) (lp l2 : Nat) (a1 b1 a2 b2 : Code) (ha1 : a1 = qA (qI (qR (qR (qI (qL (qR (qR (qI (qI (qR (qL (qR body38))))))))))))) (hb1 : b1 = qB (qI (qR (qR (qI (qL (qR (qR (qI (qI (qR (qL (qR body38))))))))))))) (ha2 : a2 = qA (qI (qR (qR body122)))) (hb2 : b2 = qB (qI (qR (qR body122)))) (hsu : D.su = su) (h6 : 1 ≤ su ∧ su ≤ 6) (size : Nat) (hsz : 1 ≤ size ∧ size ≤ 6) :
 VC Tryz.prog body150 ⟨43, slotsOf 0 [.v (.slice none 0 0), .v (iv size), .ptr 8 0, .ptr 7 0, .ptr 9 0], [(0, .cells [.v (iv sl), .v (iv ro), .v (iv su), .v (.slice go G.length gc), .v (.slice to T.length tc)] 34), (1, .cells [.v (.int .u8 0), .v (iv 0), .v (.slice none 0 0), .v (iv 0), .v (iv 0)] 56), (2, .cells [.v (.bool false)] 4), (3, .cells [.v (.int .u8 1), .v (.func (.func 119) #[] #[]), .v (.int .u8 2), .v (.func (.func 121) #[] #[]), .v (.int .u8 3), .v (.func (.func 124) #[] #[])] 145), (4, .cells [.v (.int .u8 2), .v (.func (.func 121) #[] #[])] 145), (5, .cells [.v (iv sl), .v (iv ro), .v (iv su), .v (.slice go G.length gc), .v (.slice to T.length tc)] 34), (6, .cells [.v (.func (.yield lp) #[] #[])] 163), (7, .cells [.v (iv sl), .v (iv ro), .v (iv su), .v (.slice go G.length gc), .v (.slice to T.length tc)] 34), (8, .cells [.v (.func (.yield l2) #[] #[])] 111), (9, .cells [.fn (.func 150) [.ptr 8 0, .ptr 7 0, .ptr 9 0]] 105)], 10, Below w.heap.size w, ⟨[(3001, .ptr 7 0), (3002, .ptr 8 0), (3003, .ptr 9 0), (3004, .v (iv size)), (3010, .v (.bool true)), (2001, .ptr 5 0), (2002, .ptr 6 0), (1001, .ptr 0 0), (1002, .ptr 1 0), (1003, .ptr 2 0), (1005, .ptr 4 0), (1007, .sl 3 0 3 3), (1008, .v (iv 3)), (1009, .v (iv 1))], [(1, ⟨l2, .ready, 13, 2000, #[6], a2, b2⟩), (0, ⟨lp, .ready, 23, 1000, #[17], a1, b1⟩)], 2⟩⟩ (endΦ env Tryz.f150 fun s σ' => (s = .v (.bool true) ∧ (combos su.toNat size []).find? (unB D) = none ∧ ∃ (t : List (Nat × SV)) (nb : Nat), σ' = ⟨43, t, [(0, .cells [.v (iv sl), .v (iv ro), .v (iv su), .v (.slice go G.length gc), .v (.slice to T.length tc)] 34), (1, .cells [.v (.int .u8 0), .v (iv 0), .v (.slice none 0 0), .v (iv 0), .v (iv 0)] 56), (2, .cells [.v (.bool false)] 4), (3, .cells [.v (.int .u8 1), .v (.func (.func 119) #[] #[]), .v (.int .u8 2), .v (.func (.func 121) #[] #[]), .v (.int .u8 3), .v (.func (.func 124) #[] #[])] 145), (4, .cells [.v (.int .u8 2), .v (.func (.func 121) #[] #[])] 145), (5, .cells [.v (iv sl), .v (iv ro), .v (iv su), .v (.slice go G.length gc), .v (.slice to T.length tc)] 34), (6, .cells [.v (.func (.yield lp) #[] #[])] 163), (7, .cells [.v (iv sl), .v (iv ro), .v (iv su), .v (.slice go G.length gc), .v (.slice to T.length tc)] 34), (8, .cells [.v (.func (.yield l2) #[] #[])] 111), (9, .cells [.fn (.func 150) [.ptr 8 0, .ptr 7 0, .ptr 9 0]] 105)], nb, Below w.heap.size w, ⟨[(3001, .ptr 7 0), (3002, .ptr 8 0), (3003, .ptr 9 0), (3004, .v (iv size)), (3010, .v (.bool true)), (2001, .ptr 5 0), (2002, .ptr 6 0), (1001, .ptr 0 0), (1002, .ptr 1 0), (1003, .ptr 2 0), (1005, .ptr 4 0), (1007, .sl 3 0 3 3), (1008, .v (iv 3)), (1009, .v (iv 1))], [(1, ⟨l2, .ready, 13, 2000, #[6], a2, b2⟩), (0, ⟨lp, .ready, 23, 1000, #[17], a1, b1⟩)], 2⟩⟩) ∨
  (s = .v (.bool false) ∧ ∃ (l : List Int) (o : Option Addr) (c : Nat) (t : List (Nat × SV)), (combos su.toNat size []).find? (unB D) = some l ∧ σ' = ⟨43, t, [(1, .cells [.v (.int .u8 2), .v (iv 0), .v (.slice o l.length c), .v (iv (hoursP D l)), .v (iv (timesP D l))] 56), (2, .cells [.v (.bool true)] 4)], 30, fun w' => Below w.heap.size w w' ∧ St w.heap.size (Rd 1 iF (.slice o l.length c) l) w', ⟨[(3001, .ptr 7 0), (3002, .ptr 8 0), (3003, .ptr 9 0), (3004, .v (iv size)), (3010, .v (.bool true)), (2001, .ptr 5 0), (2002, .ptr 6 0), (1001, .ptr 0 0), (1002, .ptr 1 0), (1003, .ptr 2 0), (1005, .ptr 4 0), (1007, .sl 3 0 3 3), (1008, .v (iv 3)), (1009, .v (iv 1))], [(1, ⟨l2, .done .ret, 13, 2000, #[6], a2, b2⟩), (0, ⟨lp, .done .ret, 23, 1000, #[17], a1, b1⟩)], 2⟩⟩)) := by
 obtain ⟨d, rfl⟩ : ∃ d, size = d + 1 := ⟨size - 1, by omega⟩
 refine VC.cutE env mixed 4 10 (fun _ : Unit => [(0, .v (.slice none 0 0)), (1, .v (iv (d + 1 : Nat))), (2, .ptr 8 0), (3, .ptr 7 0), (4, .ptr 9 0), (8, .v (iv 0))]) (fun _ => [(0, .cells [.v (iv sl), .v (iv ro), .v (iv su), .v (.slice go G.length gc), .v (.slice to T.length tc)] 34), (1, .cells [.v (.int .u8 0), .v (iv 0), .v (.slice none 0 0), .v (iv 0), .v (iv 0)] 56), (2, .cells [.v (.bool false)] 4), (3, .cells [.v (.int .u8 1), .v (.func (.func 119) #[] #[]), .v (.int .u8 2), .v (.func (.func 121) #[] #[]), .v (.int .u8 3), .v (.func (.func 124) #[] #[])] 145), (4, .cells [.v (.int .u8 2), .v (.func (.func 121) #[] #[])] 145), (5, .cells [.v (iv sl), .v (iv ro), .v (iv su), .v (.slice go G.length gc), .v (.slice to T.length tc)] 34), (6, .cells [.v (.func (.yield lp) #[] #[])] 163), (7, .cells [.v (iv sl), .v (iv ro), .v (iv su), .v (.slice go G.length gc), .v (.slice to T.length tc)] 34), (8, .cells [.v (.func (.yield l2) #[] #[])] 111), (9, .cells [.fn (.func 150) [.ptr 8 0, .ptr 7 0, .ptr 9 0]] 105)]) (fun _ => True) (fun _ _ => ⟨rfl, rfl⟩) ?_ (fun _ _ => ?_)
 ·
  repeat'
   conv => whnf
   first
    |refine splF ?_
  conv => whnf
  exact ⟨rfl, (), trivial, Ent.weak rfl ⟨rfl, rfl, rfl, rfl, rfl, rfl, trivial⟩ ⟨rfl, rfl, rfl, rfl, rfl, rfl, rfl, rfl, rfl, rfl, trivial⟩ fun _ h => h⟩
 · rw [c150d]
   refine VC.sq (VC.sq (VC.of env mixed ?_))
   skip
   conv => whnf
   refine VC.block (VC.loop (loopN 10 (fun j : Nat => [(0, .v (.slice none 0 0)), (1, .v (iv (d + 1 : Nat))), (2, .ptr 8 0), (3, .ptr 7 0), (4, .ptr 9 0), (9, .v (iv j))]) (fun _ => [(0, .cells [.v (iv sl), .v (iv ro), .v (iv su), .v (.slice go G.length gc), .v (.slice to T.length tc)] 34), (1, .cells [.v (.int .u8 0), .v (iv 0), .v (.slice none 0 0), .v (iv 0), .v (iv 0)] 56), (2, .cells [.v (.bool false)] 4), (3, .cells [.v (.int .u8 1), .v (.func (.func 119) #[] #[]), .v (.int .u8 2), .v (.func (.func 121) #[] #[]), .v (.int .u8 3), .v (.func (.func 124) #[] #[])] 145), (4, .cells [.v (.int .u8 2), .v (.func (.func 121) #[] #[])] 145), (5, .cells [.v (iv sl), .v (iv ro), .v (iv su), .v (.slice go G.length gc), .v (.slice to T.length tc)] 34), (6, .cells [.v (.func (.yield lp) #[] #[])] 163), (7, .cells [.v (iv sl), .v (iv ro), .v (iv su), .v (.slice go G.length gc), .v (.slice to T.length tc)] 34), (8, .cells [.v (.func (.yield l2) #[] #[])] 111), (9, .cells [.fn (.func 150) [.ptr 8 0, .ptr 7 0, .ptr 9 0]] 105)]) (fun j => j ≤ su.toNat ∧ ∀ i, i < j → (combos su.toNat d ([] ++ [(i : Int)])).find? (unB D) = none) (fun j => su.toNat - j) 0 ⟨Nat.zero_le _, fun i h => by omega⟩ ⟨rfl, rfl, rfl, rfl, rfl, rfl, trivial⟩ ⟨rfl, rfl, rfl, rfl, rfl, rfl, rfl, rfl, rfl, rfl, trivial⟩ (fun _ _ => ⟨rfl, rfl⟩) ?_))
   intro j ⟨hj2, hno⟩
   rcases Nat.lt_or_ge j su.toNat with hjl | hjl
   · refine VC.sq (VC.of env mixed ?_)
     repeat'
      conv => whnf
      first
       |refine zB ?_
       |(refine splD ?_ ?_ <;> intro hc <;> first|(exfalso; omega)|skip)
     conv => whnf
     have hsub' : subIn D ([] ++ [(j : Int)]) := ⟨by simp, fun x hx => by
      simp only [List.nil_append, List.mem_singleton] at hx; subst hx; rw [hsu]; omega⟩
     have ihj := rec150 sl ro su go to gc tc G T D w h hB hD hv lp l2 a1 b1 a2 b2 ha1 hb1 ha2 hb2 hsu h6 (d + 1) d ([] ++ [(j : Int)]) (by simp; omega) (by simp) hsub' hsz.2
     rw [show (([] : List Int) ++ [(j : Int)]).length = 1 from rfl, show (([] : List Int) ++ [(j : Int)]).map iv = [iv j] from rfl] at ihj
     have htot : ∀ l, (combos su.toNat d ([] ++ [(j : Int)])).find? (unB D) = some l → (combos su.toNat (d + 1) []).find? (unB D) = some l := fun l hl => by
      show (((List.range' 0 (su.toNat - 0)).flatMap fun j : Nat => combos su.toNat d ([] ++ [(j : Int)])).find? (unB D)) = some l
      exact find_fm_some _ _ j (fun i h1 h2 => hno i h2) (Nat.zero_le _) (by omega) hl
     refine VC.sq (VC.block (VC.sq ?_))
     refine VC_mid env mixed (fun _ => false) 6 (by kernel_rfl) ?_
     repeat'
      conv => whnf
      first
       |refine zA ?_|refine zB ?_|refine zI ?_
     conv => whnf
     refine rec_stN env mixed (k := 150) Tryz.func150 has150 Tryz.ntmps150 (fun σs : Sg => ∃ (l : List Int) (o : Option Addr) (c : Nat), (combos su.toNat d ([] ++ [(j : Int)])).find? (unB D) = some l ∧ σs = ⟨0, [], [(1, .cells [.v (.int .u8 2), .v (iv 0), .v (.slice o l.length c), .v (iv (hoursP D l)), .v (iv (timesP D l))] 56), (2, .cells [.v (.bool true)] 4)], 30, fun w' => Below w.heap.size w w' ∧ St w.heap.size (Rd 1 iF (.slice o l.length c) l) w', ⟨[(3001, .ptr 7 0), (3002, .ptr 8 0), (3003, .ptr 9 0), (3004, .v (iv (d + 1 : Nat))), (3010, .v (.bool true)), (2001, .ptr 5 0), (2002, .ptr 6 0), (1001, .ptr 0 0), (1002, .ptr 1 0), (1003, .ptr 2 0), (1005, .ptr 4 0), (1007, .sl 3 0 3 3), (1008, .v (iv 3)), (1009, .v (iv 1))], [(1, ⟨l2, .done .ret, 13, 2000, #[6], a2, b2⟩), (0, ⟨lp, .done .ret, 23, 1000, #[17], a1, b1⟩)], 2⟩⟩) ((combos su.toNat d ([] ++ [(j : Int)])).find? (unB D) = none) (Nat.le_of_ble_eq_true rfl) rfl (mB_lk rfl) (gB_lk rfl) rfl rfl (fun σs hs => by obtain ⟨l, o, c, _, rfl⟩ := hs; exact ⟨rfl, rfl⟩) ihj (pl := [(3001, 7), (3002, 8), (3003, 9)]) (t' := [(0, .v (.slice none 0 0)), (1, .v (iv (d + 1 : Nat))), (2, .ptr 8 0), (3, .ptr 7 0), (4, .ptr 9 0), (9, .v (iv j))]) (fun _ h => h) ⟨rfl, rfl, rfl, rfl, rfl, rfl, rfl, rfl, rfl, rfl, trivial⟩ ⟨rfl, rfl, rfl, rfl, rfl, rfl, trivial⟩ (fun q hq => by simp only [List.mem_cons, List.not_mem_nil, or_false] at hq; rcases hq with rfl | rfl | rfl <;> rfl) (fun q hq => by simp only [List.mem_cons, List.not_mem_nil, or_false] at hq; rcases hq with rfl | rfl | rfl <;> decide) rfl (fun σs hs => by obtain ⟨l, o, c, _, rfl⟩ := hs; exact okB rfl rfl rfl) (fun σs hs => ?_) (i := 11) (j := 12) rfl (by decide) rfl (tB_lk (nt := 43) rfl) (by show (10 : Nat) ≤ 13; decide) (fun hp => ?_)
     · obtain ⟨l, o, c, hl, rfl⟩ := hs
       conv => whnf
       refine VC.of env mixed ?_
       repeat'
        conv => whnf
        first
         |refine splT ?_
       conv => whnf
       exact .inr ⟨rfl, l, o, c, _, htot l hl, rfl⟩
     · conv => whnf
       refine VC.of env mixed ?_
       repeat'
        conv => whnf
        first
         |refine splF ?_
       conv => whnf
       refine VC.of env mixed ?_
       repeat'
        conv => whnf
        first
         |refine zF ?_
       conv => whnf
       exact ⟨j + 1, ⟨by omega, fun i h1 => by
        by_cases hi : i = j
        · subst hi; exact hp
        · exact hno i (by omega)⟩, by omega, Ent.weak rfl ⟨rfl, rfl, rfl, rfl, rfl, rfl, trivial⟩ ⟨rfl, rfl, rfl, rfl, rfl, rfl, rfl, rfl, rfl, rfl, trivial⟩ fun _ h => h⟩
   · refine VC.sq (VC.of env mixed ?_)
     repeat'
      conv => whnf
      first
       |refine zB ?_
       |(refine splD ?_ ?_ <;> intro hc <;> first|(exfalso; omega)|skip)
     conv => whnf
     refine VC.of env mixed ?_
     skip
     conv => whnf
     obtain rfl : j = su.toNat := by omega
     exact .inl ⟨rfl, by
      show (((List.range' 0 (su.toNat - 0)).flatMap fun j : Nat => combos su.toNat d ([] ++ [(j : Int)])).find? (unB D)) = none
      exact find_fm_none fun i hi => by
       obtain ⟨h1, h2⟩ := List.mem_range'_1.1 hi
       exact hno i (by omega), _, _, rfl⟩
theorem end_mono {P : Program} {T : Env P} {fn : Func} {t : Tmp} (hr : fn.results.toList = [.tmp t]) {K K' : SV → Sg → Prop} (hK : ∀ s σ, K s σ → K' s σ) : ∀ e σ, endΦ T fn K e σ → endΦ T fn K' e σ := by
 intro e σ h
 have key : (resK T σ fn.results.toList fun l => oneK l fun s => K s σ) → resK T σ fn.results.toList fun l => oneK l fun s => K' s σ := by
  rw [hr]
  simp only [resK]
  cases lk σ.t t with
  | none => exact id
  | some s => exact fun h => hK s σ h
 cases e with
 | ret => exact key h
 | normal => exact key h
 | _ => exact h
theorem c149 : rest 4 body149 = .block 0 (.loop (qI (qI (rest 4 body149)))) := by kernel_rfl
theorem why_ok (s : Sc) (w : World) (h : ScIn s w) (hB : ScB s) (hv : scOk s.d = true) :
 Calls Tryz.prog 38 #[s.v] w fun e w' => ∃ y : RnF (rWhy s.d), e = .returned (.tuple #[y.1.v, .bool (rWhy s.d).isSome]) ∧ Below w.heap.size w w' ∧ St w.heap.size (Rd 1 iF (.slice y.1.o y.1.L.length y.1.c) y.1.L) w' := by
 have cC := fun (g : Nat) (xs : List Int) (hx : s.d.G[g]? = some xs) (w' : World) (hw : Below w.heap.size w w') => crowded_ok s g xs w' (h.below hw) hv hx
 have cF := fun (w' : World) (hw : Below w.heap.size w w') => full_ok s w' (h.below hw) hv
 obtain ⟨hv1, hv2, hv3, hv4, hv5, hv6, hv7⟩ := scOk_iff.1 hv
 obtain ⟨hg, hrr, ht, hh⟩ := h
 generalize hsd : s.d = D at *
 obtain ⟨sl, ro, su, go, gc, G, to, tc, T⟩ := s
 have hDsl : D.sl = sl := by rw [← hsd]; rfl
 have hDro : D.ro = ro := by rw [← hsd]; rfl
 have hDsu : D.su = su := by rw [← hsd]; rfl
 have hDG : D.G = G.map Rw.xs := by rw [← hsd]; rfl
 have hGl : G.length ≤ 8 := by rw [hDG, List.length_map] at hv4; exact hv4
 dsimp only at cC cF
 refine calls_fam env mixed Tryz.func38 has38 Tryz.ntmps38 [.agg #[iv sl, iv ro, iv su, .slice go G.length gc, .slice to T.length tc]] (by simp) ?_
 repeat'
  conv => whnf
  first
   |refine zB ?_|refine zD ?_
   |((with_reducible show CallEv _ _ 85 ..); refine callI env mixed 1000 [1, 2, 3] Tryz.func85 has85 Tryz.ntmps85 (Nat.le_of_ble_eq_true rfl) rfl rfl rfl ?_)
 refine loopN 4 (fun k : Nat => [(1, .ptr 0 0), (2, .ptr 1 0), (3, .ptr 2 0), (7, .sl 3 0 3 3), (8, .v (iv 3)), (9, .v (iv k))]) (fun k => [(0, .cells [.v (iv sl), .v (iv ro), .v (iv su), .v (.slice go G.length gc), .v (.slice to T.length tc)] 34), (1, .cells [.v (.int .u8 0), .v (iv 0), .v (.slice none 0 0), .v (iv 0), .v (iv 0)] 56), (2, .cells [.v (.bool false)] 4), (3, .cells [.v (.int .u8 1), .v (.func (.func 119) #[] #[]), .v (.int .u8 2), .v (.func (.func 121) #[] #[]), .v (.int .u8 3), .v (.func (.func 124) #[] #[])] 145)]) (fun k => k ≤ 3 ∧ (1 ≤ k → crF D 0 G.length = none) ∧ (2 ≤ k → bestK D (2 ^ su.toNat - 1) = none) ∧ (3 ≤ k → ¬ ro * sl < hoursP D (numL su.toNat))) (fun k => 3 - k) 0 ⟨by omega, fun h => by omega, fun h => by omega, fun h => by omega⟩ ⟨rfl, rfl, rfl, rfl, rfl, rfl, trivial⟩ ⟨rfl, rfl, rfl, rfl, trivial⟩ (fun _ _ => ⟨rfl, rfl⟩) ?_
 intro k ⟨hk, hk1, hk2, hk3⟩
 rcases Nat.lt_or_ge k 1 with hk0 | hk0
 · obtain rfl : k = 0 := by omega
   repeat'
    conv => whnf
    first
     |refine zB ?_|refine zC ?_|refine zD ?_|refine zG ?_|refine splT ?_
     |((with_reducible show CallEv _ _ 119 ..); refine callI env mixed 1000 [1, 2, 3, 5, 7, 8, 9] Tryz.func119 has119 Tryz.ntmps119 (Nat.le_of_ble_eq_true rfl) rfl rfl rfl ?_)
   conv => whnf
   refine rf_inline env mixed 1000 [1, 2, 3, 5, 7, 8, 9] Tryz.func120 has120 Tryz.ntmps120 rfl rfl (by decide) rfl rfl ?_
   intro lp asg bdy hasg hbdy
   repeat'
    conv => whnf
    first
     |refine zB ?_
   refine loopN 6 (fun i : Nat => [(0, .v (.func (.yield lp) #[] #[])), (1, .ptr 5 0), (5, .v (.slice go G.length gc)), (6, .v (iv G.length)), (7, .v (iv i))]) (fun i => [(0, .cells [.v (iv sl), .v (iv ro), .v (iv su), .v (.slice go G.length gc), .v (.slice to T.length tc)] 34), (1, .cells [.v (.int .u8 0), .v (iv 0), .v (.slice none 0 0), .v (iv 0), .v (iv 0)] 56), (2, .cells [.v (.bool false)] 4), (3, .cells [.v (.int .u8 1), .v (.func (.func 119) #[] #[]), .v (.int .u8 2), .v (.func (.func 121) #[] #[]), .v (.int .u8 3), .v (.func (.func 124) #[] #[])] 145), (4, .cells [.v (.int .u8 1), .v (.func (.func 119) #[] #[])] 145), (5, .cells [.v (iv sl), .v (iv ro), .v (iv su), .v (.slice go G.length gc), .v (.slice to T.length tc)] 34)]) (fun i => i ≤ G.length ∧ crF D 0 G.length = crF D i (G.length - i)) (fun i => G.length - i) 0 ⟨Nat.zero_le _, rfl⟩ ⟨rfl, rfl, rfl, rfl, rfl, trivial⟩ ⟨rfl, rfl, rfl, rfl, rfl, rfl, trivial⟩ (fun _ _ => ⟨rfl, rfl⟩) ?_
   intro i ⟨hi, hcr⟩
   rcases Nat.lt_or_ge i G.length with hil | hil
   · obtain ⟨⟨ro', rc, xs⟩, hx⟩ : ∃ b, G[i]? = some b := ⟨_, List.getElem?_eq_getElem hil⟩
     have hmx : D.G[i]? = some xs := by rw [hDG, List.getElem?_map, hx]; rfl
     have hgx : D.G.getD i [] = xs := by rw [List.getD_eq_getElem?_getD, hmx]; rfl
     have c62 := cC i xs hmx
     have hcb : crB D i = decide (sl < (xs.map id).sum) := by unfold crB; rw [hgx, hDsl]
     by_cases hc : sl < (xs.map id).sum
     · have hw : rWhy D = some ⟨1, i, [], (xs.map id).sum, sl⟩ := by
        unfold rWhy
        rw [hDG, List.length_map, hcr, crF_at (by rw [hcb]; exact decide_eq_true hc) (by omega)]
        dsimp only
        rw [← hDG, hgx, hDsl]
       rw [hw]
       generalize (xs.map id).sum = X at *
       have c60 := fun (w' : World) => holds_ok ⟨1, i, none, 0, [], X, sl⟩ w'
       rw [show decide ((⟨1, i, none, 0, [], X, sl⟩ : Rn).h < (⟨1, i, none, 0, [], X, sl⟩ : Rn).n) = true from decide_eq_true hc] at c60
       repeat'
        conv => whnf
        first
         |refine zB ?_|refine zC ?_|refine zD ?_|refine splT ?_
         |(refine splD ?_ ?_ <;> intro hc <;> first|(exfalso; omega)|skip)
         |((with_reducible show CallEv _ _ 62 ..); refine callE (fun β w' hbw => c62 _ hbw) ?_)
         |refine And.intro (a := (_ : List _) = [] ∧ (_ : List _) = []) ⟨rfl, rfl⟩ ?_
         |refine yield_inline env mixed 0 2000 [2, 3] [0, 1, 5, 6, 7] rfl rfl rfl rfl rfl rfl rfl ?_
         |refine vc_eq env hasg ?_
         |refine vc_eq env hbdy ?_
         |((with_reducible show CallEv _ _ 60 ..); refine callE (fun β w' hbw => c60 w') ?_)
       all_goals exact ⟨fun w' h => h, fun β w' hB hblk => ⟨⟨⟨1, i, none, 0, [], X, sl⟩, rfl⟩, rfl, fun _ _ => .inl ⟨rfl, rfl⟩⟩⟩
     · have hn : crF D 0 G.length = crF D (i + 1) (G.length - (i + 1)) := by rw [hcr, crF_no (by rw [hcb]; exact decide_eq_false hc) (by omega)]; rfl
       generalize (xs.map id).sum = X at *
       have c60 := fun (w' : World) => holds_ok ⟨1, i, none, 0, [], X, sl⟩ w'
       rw [show decide ((⟨1, i, none, 0, [], X, sl⟩ : Rn).h < (⟨1, i, none, 0, [], X, sl⟩ : Rn).n) = false from decide_eq_false hc] at c60
       repeat'
        conv => whnf
        first
         |refine zB ?_|refine zC ?_|refine zD ?_|refine zF ?_|refine splF ?_
         |(refine splD ?_ ?_ <;> intro hc <;> first|(exfalso; omega)|skip)
         |((with_reducible show CallEv _ _ 62 ..); refine callE (fun β w' hbw => c62 _ hbw) ?_)
         |refine And.intro (a := (_ : List _) = [] ∧ (_ : List _) = []) ⟨rfl, rfl⟩ ?_
         |refine yield_inline env mixed 0 2000 [2, 3] [0, 1, 5, 6, 7] rfl rfl rfl rfl rfl rfl rfl ?_
         |refine vc_eq env hasg ?_
         |refine vc_eq env hbdy ?_
         |((with_reducible show CallEv _ _ 60 ..); refine callE (fun β w' hbw => c60 w') ?_)
       all_goals exact ⟨i + 1, ⟨by omega, hn⟩, by omega, Ent.weak rfl ⟨rfl, rfl, rfl, rfl, rfl, trivial⟩ ⟨rfl, rfl, rfl, rfl, rfl, rfl, trivial⟩ (fun _ h => h) (.inr ⟨rfl, ⟨rfl, rfl, rfl, rfl, rfl, rfl, rfl, trivial⟩, ⟨rfl, trivial⟩⟩)⟩
   · obtain rfl : i = G.length := by omega
     rw [Nat.sub_self] at hcr
     change crF D 0 G.length = none at hcr
     repeat'
      conv => whnf
      first
       |refine zF ?_
       |(refine splD ?_ ?_ <;> intro hc <;> first|(exfalso; omega)|skip)
     all_goals exact ⟨1, ⟨by omega, fun _ => hcr, fun h => by omega, fun h => by omega⟩, by omega, Ent.weak rfl ⟨rfl, rfl, rfl, rfl, rfl, rfl, trivial⟩ ⟨rfl, rfl, rfl, rfl, trivial⟩ fun _ h => h⟩
 · have hcr := hk1 hk0
   have hw0 : rWhy D = match bestK D (2 ^ su.toNat - 1) with
    | some l => some ⟨2, 0, l, hoursP D l, timesP D l⟩
    | none => if ro * sl < hoursP D (numL su.toNat) then some ⟨3, 0, [], hoursP D (numL su.toNat), ro * sl⟩ else none := by
    unfold rWhy
    rw [hDG, List.length_map, hcr, hDsu, hDro, hDsl]
    try rfl
   rcases Nat.lt_or_ge k 2 with hk20 | hk20
   · obtain rfl : k = 1 := by omega
     have hsu6 := hv3
     have hfb := find_best (unB D) (su := su.toNat) (by rw [hDsu] at hsu6; omega) (by rw [hDsu] at hsu6; omega)
     rw [← bestK_G] at hfb
     repeat'
      conv => whnf
      first
       |refine zB ?_|refine zC ?_|refine zD ?_|refine zG ?_|refine splT ?_
       |((with_reducible show CallEv _ _ 121 ..); refine callI env mixed 1000 [1, 2, 3, 5, 7, 8, 9] Tryz.func121 has121 Tryz.ntmps121 (Nat.le_of_ble_eq_true rfl) rfl rfl rfl ?_)
     conv => whnf
     refine rf_inline env mixed 1000 [1, 2, 3, 5, 7, 8, 9] Tryz.func122 has122 Tryz.ntmps122 rfl rfl (by decide) rfl rfl ?_
     intro lp a1 b1 hasg hbdy
     repeat'
      conv => whnf
      first
       |refine zD ?_
       |((with_reducible show CallEv _ _ 123 ..); refine callI env mixed 2000 [0, 1, 2] Tryz.func123 has123 Tryz.ntmps123 (Nat.le_of_ble_eq_true rfl) rfl rfl rfl ?_)
     conv => whnf
     refine rf_inline0V env mixed 2000 [1, 2] rfl rfl Tryz.func149 has149 Tryz.ntmps149 (Nat.le_of_ble_eq_true rfl) rfl rfl ?_
     conv => whnf
     intro l2 a2 b2 hasg2 hbdy2
     have ha1 : a1 = qA (qI (qR (qR (qI (qL (qR (qR (qI (qI (qR (qL (qR body38)))))))))))) := hasg
     have hb1 : b1 = qB (qI (qR (qR (qI (qL (qR (qR (qI (qI (qR (qL (qR body38)))))))))))) := hbdy
     have ha2 : a2 = qA (qI (qR (qR body122))) := hasg2
     have hb2 : b2 = qB (qI (qR (qR body122))) := hbdy2
     refine VC.ent (σ' := ⟨17, [(0, .v (.func (.yield l2) #[] #[])), (1, .ptr 7 0)], [(0, .cells [.v (iv sl), .v (iv ro), .v (iv su), .v (.slice go G.length gc), .v (.slice to T.length tc)] 34), (1, .cells [.v (.int .u8 0), .v (iv 0), .v (.slice none 0 0), .v (iv 0), .v (iv 0)] 56), (2, .cells [.v (.bool false)] 4), (3, .cells [.v (.int .u8 1), .v (.func (.func 119) #[] #[]), .v (.int .u8 2), .v (.func (.func 121) #[] #[]), .v (.int .u8 3), .v (.func (.func 124) #[] #[])] 145), (4, .cells [.v (.int .u8 2), .v (.func (.func 121) #[] #[])] 145), (5, .cells [.v (iv sl), .v (iv ro), .v (iv su), .v (.slice go G.length gc), .v (.slice to T.length tc)] 34), (6, .cells [.v (.func (.yield lp) #[] #[])] 163), (7, .cells [.v (iv sl), .v (iv ro), .v (iv su), .v (.slice go G.length gc), .v (.slice to T.length tc)] 34)], 8, Below w.heap.size w, ⟨[(2001, .ptr 5 0), (2002, .ptr 6 0), (1001, .ptr 0 0), (1002, .ptr 1 0), (1003, .ptr 2 0), (1005, .ptr 4 0), (1007, .sl 3 0 3 3), (1008, .v (iv 3)), (1009, .v (iv 1))], [(1, ⟨l2, .ready, 13, 2000, #[6], a2, b2⟩), (0, ⟨lp, .ready, 23, 1000, #[17], a1, b1⟩)], 2⟩⟩) ?_ (Ent.weak rfl ⟨rfl, rfl, trivial⟩ ⟨rfl, rfl, rfl, rfl, rfl, rfl, rfl, rfl, trivial⟩ (fun _ h => h)) (okB rfl rfl rfl)
     refine VC.cutE env mixed 4 10 (fun _ : Unit => [(1, .ptr 7 0), (2, .ptr 8 0), (3, .ptr 9 0), (4, .v (iv (1 : Nat)))]) (fun _ => [(0, .cells [.v (iv sl), .v (iv ro), .v (iv su), .v (.slice go G.length gc), .v (.slice to T.length tc)] 34), (1, .cells [.v (.int .u8 0), .v (iv 0), .v (.slice none 0 0), .v (iv 0), .v (iv 0)] 56), (2, .cells [.v (.bool false)] 4), (3, .cells [.v (.int .u8 1), .v (.func (.func 119) #[] #[]), .v (.int .u8 2), .v (.func (.func 121) #[] #[]), .v (.int .u8 3), .v (.func (.func 124) #[] #[])] 145), (4, .cells [.v (.int .u8 2), .v (.func (.func 121) #[] #[])] 145), (5, .cells [.v (iv sl), .v (iv ro), .v (iv su), .v (.slice go G.length gc), .v (.slice to T.length tc)] 34), (6, .cells [.v (.func (.yield lp) #[] #[])] 163), (7, .cells [.v (iv sl), .v (iv ro), .v (iv su), .v (.slice go G.length gc), .v (.slice to T.length tc)] 34), (8, .cells [.v (.func (.yield l2) #[] #[])] 111), (9, .cells [.fn (.func 150) [.ptr 8 0, .ptr 7 0, .ptr 9 0]] 105)]) (fun _ => True) (fun _ _ => ⟨rfl, rfl⟩) ?_ (fun _ _ => ?_)
     ·
      repeat'
       conv => whnf
       first
        |refine zC ?_
      conv => whnf
      exact ⟨rfl, (), trivial, Ent.weak rfl ⟨rfl, rfl, rfl, rfl, trivial⟩ ⟨rfl, rfl, rfl, rfl, rfl, rfl, rfl, rfl, rfl, rfl, trivial⟩ fun _ h => h⟩
     · rw [c149]
       refine VC.block (VC.loop (loopN 10 (fun k : Nat => [(1, .ptr 7 0), (2, .ptr 8 0), (3, .ptr 9 0), (4, .v (iv k))]) (fun _ => [(0, .cells [.v (iv sl), .v (iv ro), .v (iv su), .v (.slice go G.length gc), .v (.slice to T.length tc)] 34), (1, .cells [.v (.int .u8 0), .v (iv 0), .v (.slice none 0 0), .v (iv 0), .v (iv 0)] 56), (2, .cells [.v (.bool false)] 4), (3, .cells [.v (.int .u8 1), .v (.func (.func 119) #[] #[]), .v (.int .u8 2), .v (.func (.func 121) #[] #[]), .v (.int .u8 3), .v (.func (.func 124) #[] #[])] 145), (4, .cells [.v (.int .u8 2), .v (.func (.func 121) #[] #[])] 145), (5, .cells [.v (iv sl), .v (iv ro), .v (iv su), .v (.slice go G.length gc), .v (.slice to T.length tc)] 34), (6, .cells [.v (.func (.yield lp) #[] #[])] 163), (7, .cells [.v (iv sl), .v (iv ro), .v (iv su), .v (.slice go G.length gc), .v (.slice to T.length tc)] 34), (8, .cells [.v (.func (.yield l2) #[] #[])] 111), (9, .cells [.fn (.func 150) [.ptr 8 0, .ptr 7 0, .ptr 9 0]] 105)]) (fun k => 1 ≤ k ∧ k ≤ su.toNat + 1 ∧ ∀ i, 1 ≤ i → i < k → (combos su.toNat i []).find? (unB D) = none) (fun k => su.toNat + 1 - k) 1 ⟨Nat.le_refl _, by omega, fun i h1 h2 => by omega⟩ ⟨rfl, rfl, rfl, rfl, trivial⟩ ⟨rfl, rfl, rfl, rfl, rfl, rfl, rfl, rfl, rfl, rfl, trivial⟩ (fun _ _ => ⟨rfl, rfl⟩) ?_))
       intro size ⟨hs1, hs2, hno⟩
       rcases Nat.lt_or_ge su.toNat size with hsl | hsl
       · refine VC.of env mixed ?_
         repeat'
          conv => whnf
          first
           |refine zB ?_|refine zF ?_|refine splF ?_
           |(refine splD ?_ ?_ <;> intro hc <;> first|(exfalso; omega)|skip)
         conv => whnf
         have hbn : bestK D (2 ^ su.toNat - 1) = none := by
          rw [← hfb]
          exact find_fm_none fun i hi => by
           obtain ⟨h1, h2⟩ := List.mem_range'_1.1 hi
           exact hno i h1 (by omega)
         exact ⟨2, ⟨by omega, fun _ => hcr, fun _ => hbn, fun h => by omega⟩, by omega, Ent.weak rfl ⟨rfl, rfl, rfl, rfl, rfl, rfl, trivial⟩ ⟨rfl, rfl, rfl, rfl, trivial⟩ fun _ h => h⟩
       · refine VC.of env mixed ?_
         repeat'
          conv => whnf
          first
           |refine zB ?_
           |(refine splD ?_ ?_ <;> intro hc <;> first|(exfalso; omega)|skip)
         conv => whnf
         refine .st _ rfl (callI0V env mixed 3000 [1, 2, 3, 4, 10] Tryz.func150 has150 Tryz.ntmps150 (Nat.le_of_ble_eq_true rfl) rfl rfl rfl ?_)
         conv => whnf
         refine (top150 sl ro su go to gc tc G T D w ⟨hg, hrr, ht, hh⟩ hB hsd hv lp l2 a1 b1 a2 b2 ha1 hb1 ha2 hb2 hDsu (by rw [hDsu] at hsu6; exact hsu6) size ⟨hs1, by omega⟩).mono (end_mono (t := 7) (by kernel_rfl) ?_)
         rintro s σ' (⟨rfl, hn, t, nb, rfl⟩ | ⟨rfl, l, o, c, t, hl, rfl⟩)
         ·
          repeat'
           conv => whnf
           first
            |refine zF ?_|refine splT ?_
          conv => whnf
          exact ⟨size + 1, ⟨by omega, by omega, fun i h1 h2 => by
           by_cases hi : i = size
           · subst hi; exact hn
           · exact hno i h1 (by omega)⟩, by omega, Ent.weak rfl ⟨rfl, rfl, rfl, rfl, trivial⟩ ⟨rfl, rfl, rfl, rfl, rfl, rfl, rfl, rfl, rfl, rfl, trivial⟩ fun _ h => h⟩
         ·
          repeat'
           conv => whnf
           first
            |refine splF ?_
          conv => whnf
          have hbs : bestK D (2 ^ su.toNat - 1) = some l := by
           rw [← hfb]
           exact find_fm_some _ _ size (fun i h1 h2 => hno i h1 h2) hs1 (by omega) hl
          have hw2 : rWhy D = some ⟨2, 0, l, hoursP D l, timesP D l⟩ := by rw [hw0, hbs]
          rw [hw2]
          exact ⟨fun w' h => h.1, fun β w' hh2 hblk => ⟨⟨⟨2, 0, o, c, l, hoursP D l, timesP D l⟩, rfl⟩, rfl, hh2.2⟩⟩
   · rw [hk2 hk20] at hw0
     dsimp only at hw0
     rcases Nat.lt_or_ge k 3 with hk30 | hk30
     · obtain rfl : k = 2 := by omega
       generalize hoursP D (numL su.toNat) = H at *
       generalize hX : ro * sl = X at *
       have c60 := fun (w' : World) => holds_ok ⟨3, 0, none, 0, [], H, X⟩ w'
       by_cases hf : X < H
       · rw [if_pos hf] at hw0
         rw [hw0]
         rw [show decide ((⟨3, 0, none, 0, [], H, X⟩ : Rn).h < (⟨3, 0, none, 0, [], H, X⟩ : Rn).n) = true from decide_eq_true hf] at c60
         repeat'
          conv => whnf
          first
           |refine zB ?_|refine zC ?_|refine zD ?_|refine zG ?_|refine splT ?_
           |((with_reducible show CallEv _ _ 124 ..); refine callI env mixed 1000 [1, 2, 3, 5, 7, 8, 9] Tryz.func124 has124 Tryz.ntmps124 (Nat.le_of_ble_eq_true rfl) rfl rfl rfl ?_)
         conv => whnf
         refine rf_inline env mixed 1000 [1, 2, 3, 5, 7, 8, 9] Tryz.func125 has125 Tryz.ntmps125 rfl rfl (by decide) rfl rfl ?_
         intro lp asg bdy hasg hbdy
         repeat'
          conv => whnf
          first
           |refine zB ?_|refine zC ?_|refine zD ?_|refine splT ?_
           |((with_reducible show CallEv _ _ 65 ..); refine callE (fun β w' hbw => cF _ hbw) ?_)
           |refine And.intro (a := (_ : List _) = [] ∧ (_ : List _) = []) ⟨rfl, rfl⟩ ?_
           |refine yield_inline env mixed 0 2000 [2, 3] [0, 1] rfl rfl rfl rfl rfl rfl rfl ?_
           |refine vc_eq env hasg ?_
           |refine vc_eq env hbdy ?_
           |((with_reducible show CallEv _ _ 60 ..); refine callE (fun β w' hbw => c60 w') ?_)
         all_goals exact ⟨fun w' h => h, fun β w' hB hblk => ⟨⟨⟨3, 0, none, 0, [], H, X⟩, rfl⟩, rfl, fun _ _ => .inl ⟨rfl, rfl⟩⟩⟩
       · rw [if_neg hf] at hw0
         rw [show decide ((⟨3, 0, none, 0, [], H, X⟩ : Rn).h < (⟨3, 0, none, 0, [], H, X⟩ : Rn).n) = false from decide_eq_false hf] at c60
         repeat'
          conv => whnf
          first
           |refine zB ?_|refine zC ?_|refine zD ?_|refine zG ?_|refine splT ?_
           |((with_reducible show CallEv _ _ 124 ..); refine callI env mixed 1000 [1, 2, 3, 5, 7, 8, 9] Tryz.func124 has124 Tryz.ntmps124 (Nat.le_of_ble_eq_true rfl) rfl rfl rfl ?_)
         conv => whnf
         refine rf_inline env mixed 1000 [1, 2, 3, 5, 7, 8, 9] Tryz.func125 has125 Tryz.ntmps125 rfl rfl (by decide) rfl rfl ?_
         intro lp asg bdy hasg hbdy
         repeat'
          conv => whnf
          first
           |refine zB ?_|refine zC ?_|refine zD ?_|refine zF ?_|refine splF ?_
           |((with_reducible show CallEv _ _ 65 ..); refine callE (fun β w' hbw => cF _ hbw) ?_)
           |refine And.intro (a := (_ : List _) = [] ∧ (_ : List _) = []) ⟨rfl, rfl⟩ ?_
           |refine yield_inline env mixed 0 2000 [2, 3] [0, 1] rfl rfl rfl rfl rfl rfl rfl ?_
           |refine vc_eq env hasg ?_
           |refine vc_eq env hbdy ?_
           |((with_reducible show CallEv _ _ 60 ..); refine callE (fun β w' hbw => c60 w') ?_)
         all_goals exact ⟨3, ⟨by omega, fun _ => hcr, fun _ => hk2 hk20, fun _ => hf⟩, by omega, Ent.weak rfl ⟨rfl, rfl, rfl, rfl, rfl, rfl, trivial⟩ ⟨rfl, rfl, rfl, rfl, trivial⟩ fun _ h => h⟩
     · obtain rfl : k = 3 := by omega
       rw [if_neg (hk3 hk30)] at hw0
       rw [hw0]
       repeat'
        conv => whnf
        first
         |refine zB ?_|refine zC ?_|refine splF ?_
       all_goals exact ⟨fun w' h => h, fun β w' hB hblk => ⟨⟨⟨0, 0, none, 0, [], 0, 0⟩, rfl⟩, rfl, fun _ _ => .inl ⟨rfl, rfl⟩⟩⟩
def rwV (su n : Nat) (D : List (Nat × Nat)) : List Value := (D.map fun p => Value.slice (some ⟨p.1, 0, none⟩) su p.2) ++ List.replicate (n - D.length) (.slice none 0 0)
theorem rwV_nil (su n : Nat) : rwV su n [] = (List.replicate n [Value.slice none 0 0]).flatten := by
 simp only [rwV, List.map_nil, List.nil_append, List.length_nil, Nat.sub_zero]
 induction n with
 | zero => rfl
 | succ n ih => rw [List.replicate_succ, List.replicate_succ, List.flatten_cons, ← ih]; rfl
theorem rwV_set {su n : Nat} {D : List (Nat × Nat)} (p : Nat × Nat) (h : D.length < n) : (rwV su n D).set D.length (.slice (some ⟨p.1, 0, none⟩) su p.2) = rwV su n (D ++ [p]) := by
 simp only [rwV, List.map_append, List.map_cons, List.map_nil, List.length_append, List.length_singleton]
 rw [List.set_append_right _ _ (by simp), List.length_map, Nat.sub_self, show n - D.length = (n - (D.length + 1)) + 1 from by omega, List.replicate_succ, List.set_cons_zero, List.append_assoc]
 rfl
theorem rwV_len {su n : Nat} {D : List (Nat × Nat)} (h : D.length ≤ n) : (rwV su n D).length = n := by simp [rwV]; omega
end Go.Proofs.YtkbfcofifhngfaaGreat
namespace Go.Proofs.YtkbfcofifhngfaaGreat.Tx
open Go Go.RowKit
noncomputable section
end
end Go.Proofs.YtkbfcofifhngfaaGreat.Tx
namespace Go.Proofs.YtkbfcofifhngfaaGreat.Tx
open Go Go.RowKit
noncomputable section
section
end
end
end Go.Proofs.YtkbfcofifhngfaaGreat.Tx
namespace Go.Proofs.YtkbfcofifhngfaaGreat.Tx
open Go Go.RowKit
noncomputable section
section
end
end
end Go.Proofs.YtkbfcofifhngfaaGreat.Tx
namespace Go.Proofs.YtkbfcofifhngfaaGreat.Tx
open Go Go.RowKit
noncomputable section
section
end
section
end
end
end Go.Proofs.YtkbfcofifhngfaaGreat.Tx
namespace Go.Proofs.YtkbfcofifhngfaaGreat.Tx
open Go Go.RowKit
noncomputable section
section
end
end
end Go.Proofs.YtkbfcofifhngfaaGreat.Tx
namespace Go.Proofs.YtkbfcofifhngfaaGreat.Tx
open Go Go.RowKit
noncomputable section
section
end
end
end Go.Proofs.YtkbfcofifhngfaaGreat.Tx
namespace Go.Proofs.YtkbfcofifhngfaaGreat.Tx
open Go Go.RowKit
noncomputable section
section
end
end
end Go.Proofs.YtkbfcofifhngfaaGreat.Tx
namespace Go.Proofs.YtkbfcofifhngfaaGreat.Tx
open Go Go.RowKit
noncomputable section
section
end
end
end Go.Proofs.YtkbfcofifhngfaaGreat.Tx
namespace Go.Proofs.YtkbfcofifhngfaaGreat.Tx
open Go Go.RowKit
noncomputable section
section
end
end
end Go.Proofs.YtkbfcofifhngfaaGreat.Tx
namespace Go.Proofs.YtkbfcofifhngfaaGreat
open Go Tx
end Go.Proofs.YtkbfcofifhngfaaGreat
namespace Go.Proofs.YtkbfcofifhngfaaGreat
open Go Go.RowKit Tx
end Go.Proofs.YtkbfcofifhngfaaGreat
namespace Go.Proofs.YtkbfcofifhngfaaGreat.Tx
open Go Go.RowKit
theorem nlC {P : Program} {dst : Option Tmp} {ty : TypeId} {pos : String} {after : Array Edge} {gd : Option (Nat × Bool)} {gs : List Nat} {σ : Sg} {K : Ef → Prop} {KF : Option KT} {i o : Nat} {x : Operand}
 (hx : gv σ x = some (.ptr i o)) (hlt : Nat.blt i σ.nb = true) (hK : K ⟨.ptr i o, [], [], gs ++ os x, []⟩) : OpEvS P ⟨dst, .nilCheck x, ty, pos, after, gd⟩ gs σ K KF := by
 refine .mk ⟨.ptr i o, [], [], gs ++ os x, []⟩ (by simp [efB, eqs, modsLt, oldB, keysB, nodupB, SV.lt]; simpa using hlt) (fun k hk => by simp [hk]) rfl (runOK_pure fun β a w hss => ?_) hK
 have e1 := gv_eval hss hx (fun k hk => by simp [hk])
 simp [execOp, e1, SV.c]
end Go.Proofs.YtkbfcofifhngfaaGreat.Tx
namespace Go.Proofs.YtkbfcofifhngfaaGreat
open Go Tx Go.RowKit
section
variable {h0 h1 h2 h3 h4 h5 h6 : SV} {A B : Nat → Int} {K : List SV → Prop}
theorem drop7 {X : List SV} (k : Nat) : (h0 :: h1 :: h2 :: h3 :: h4 :: h5 :: h6 :: X).drop (7 + k) = X.drop k := by rw [Nat.add_comm]; rfl
theorem drA {off k : Nat} (ho : off = 7 + k) (hk : k < 320) (h : K (.v (iv (A k)) :: (tbS 320 A).drop (k + 1) ++ tbS 320 B)) : dropK off (h0 :: h1 :: h2 :: h3 :: h4 :: h5 :: h6 :: (tbS 320 A ++ tbS 320 B)) K := by
 subst ho
 refine dropK_to ?_ h
 rw [drop7, List.drop_append_of_le_length (by rw [tbS_len]; omega), tbS_drop A hk]
 rfl
theorem drB {off k : Nat} (ho : off = 327 + k) (hk : k < 320) (h : K (.v (iv (B k)) :: (tbS 320 B).drop (k + 1))) : dropK off (h0 :: h1 :: h2 :: h3 :: h4 :: h5 :: h6 :: (tbS 320 A ++ tbS 320 B)) K := by
 subst ho
 refine dropK_to ?_ h
 rw [show 327 + k = 7 + (320 + k) from by omega, drop7, List.drop_append, tbS_len, List.drop_of_length_le (by rw [tbS_len]; omega), Nat.add_sub_cancel_left, tbS_drop B hk]
 rfl
theorem spA {off k : Nat} {x : Int} (ho : off = 7 + k) (hk : k < 320) (h : K (h0 :: h1 :: h2 :: h3 :: h4 :: h5 :: h6 :: (tbS 320 (updF A k x) ++ tbS 320 B))) : splK off (h0 :: h1 :: h2 :: h3 :: h4 :: h5 :: h6 :: (tbS 320 A ++ tbS 320 B)) [.v (iv x)] K := by
 subst ho
 refine splK_to (by simp only [List.length_cons, List.length_append, tbS_len, List.length_nil]; omega) ?_ h
 rw [List.length_singleton, show 7 + k + 1 = 7 + (k + 1) from by omega, drop7, show (h0 :: h1 :: h2 :: h3 :: h4 :: h5 :: h6 :: (tbS 320 A ++ tbS 320 B)).take (7 + k) = h0 :: h1 :: h2 :: h3 :: h4 :: h5 :: h6 :: (tbS 320 A ++ tbS 320 B).take k from by rw [Nat.add_comm]; rfl,
  List.take_append_of_le_length (by rw [tbS_len]; omega), List.drop_append_of_le_length (by rw [tbS_len]; omega), ← tbS_set A x hk]
 simp only [List.cons_append, List.append_assoc]
theorem spB {off k : Nat} {x : Int} (ho : off = 327 + k) (hk : k < 320) (h : K (h0 :: h1 :: h2 :: h3 :: h4 :: h5 :: h6 :: (tbS 320 A ++ tbS 320 (updF B k x)))) : splK off (h0 :: h1 :: h2 :: h3 :: h4 :: h5 :: h6 :: (tbS 320 A ++ tbS 320 B)) [.v (iv x)] K := by
 subst ho
 refine splK_to (by simp only [List.length_cons, List.length_append, tbS_len, List.length_nil]; omega) ?_ h
 rw [List.length_singleton, show 327 + k + 1 = 7 + (320 + (k + 1)) from by omega, show 327 + k = 7 + (320 + k) from by omega, drop7, show (h0 :: h1 :: h2 :: h3 :: h4 :: h5 :: h6 :: (tbS 320 A ++ tbS 320 B)).take (7 + (320 + k)) = h0 :: h1 :: h2 :: h3 :: h4 :: h5 :: h6 :: (tbS 320 A ++ tbS 320 B).take (320 + k) from by rw [Nat.add_comm]; rfl,
  List.take_append, List.take_of_length_le (by rw [tbS_len]; omega), List.drop_append, List.drop_of_length_le (by rw [tbS_len]; omega), tbS_len, Nat.add_sub_cancel_left, Nat.add_sub_cancel_left, ← tbS_set B x hk]
 simp only [List.cons_append, List.append_assoc, List.nil_append]
end
structure Pn where
 S : Nat → Int
 A : Nat → Int
 B : Nat → Int
def gAt (x : Ln) (s : Int) : Nat := x.g.toNat * 40 + s.toNat
def tAt (x : Ln) (s : Int) : Nat := x.t.toNat * 40 + s.toNat
def putF (x : Ln) (p : Pn) (i : Nat) (s : Int) : Pn :=
 let q : Pn := if p.S i = -1 then p else ⟨p.S, updF p.A (gAt x (p.S i)) (-1), updF p.B (tAt x (p.S i)) (-1)⟩
 if s = -1 then ⟨updF p.S i s, q.A, q.B⟩ else ⟨updF p.S i s, updF q.A (gAt x s) i, updF q.B (tAt x s) i⟩
structure PH where
 sl : Int
 ro : Int
 su : Int
 gs : Value
 ts : Value
 lo : Option Addr
 n : Nat
 lc : Nat
 L : List Ln
abbrev plC (h : PH) (p : Pn) : List SV := .v (iv h.sl) :: .v (iv h.ro) :: .v (iv h.su) :: .v h.gs :: .v h.ts :: .v (.slice h.lo h.n h.lc) :: .os 1 2 h.n :: (tbS 320 p.A ++ tbS 320 p.B)
abbrev plM (h : PH) (p : Pn) : List (Nat × Blk) := [(0, .cells (plC h p) 93), (1, .own 2 h.n 1 (tbV h.n p.S) 3)]
theorem mPl (h : PH) (p : Pn) : mB 3 (plM h p) = true := by
 simp only [mB, Blk.lt, SV.lts, SV.lt, lts_append (tbS_lt _ _ _) (tbS_lt _ _ _)]
 decide
theorem livePl {h : PH} {p : Pn} : ∀ j b, lk (plM h p) j = some b → b.live = true := fun j b hj => by
 simp only [lk] at hj
 cases h0 : Nat.beq j 0 with
 | true => rw [h0, cond_true] at hj; cases hj; rfl
 | false =>
  rw [h0, cond_false] at hj
  cases h1 : Nat.beq j 1 with
  | true => rw [h1, cond_true] at hj; cases hj; rfl
  | false => rw [h1, cond_false] at hj; cases hj
structure PlOK (h : PH) (p : Pn) (β : Nat → Nat) (w : World) : Prop where
 ok : ∀ j b, lk (plM h p) j = some b → b.ok β w (β j)
 inj : ∀ j k bj bk, lk (plM h p) j = some bj → lk (plM h p) k = some bk → j ≠ k → β j ≠ β k
 st : ∀ w', Chg (fun b => ∃ j bk, lk (plM h p) j = some bk ∧ β j = b) w w' → Rd 3 Ln.cs (.slice h.lo h.n h.lc) h.L w'
structure PhOK (h : PH) : Prop where
 n : h.L.length = h.n
 l : h.n ≤ 10000
 x : ∀ x ∈ h.L, 0 ≤ x.g ∧ x.g ≤ 7 ∧ 0 ≤ x.t ∧ x.t ≤ 7
theorem put_ok (h : PH) (p : Pn) (i : Nat) (x : Ln) (s : Int) (hh : PhOK h) (hi : h.L[i]? = some x) (hS : -1 ≤ p.S i ∧ p.S i ≤ 39) (hs : -1 ≤ s ∧ s ≤ 39) {β : Nat → Nat} {w : World} (hp : PlOK h p β w) :
 Calls Tryz.prog 89 (SV.cs β [.ptr 0 0, .v (iv i), .v (iv s)]).toArray w fun e w' => e = .returned (.tuple #[]) ∧ Chg (fun b => ∃ j bk, lk (plM h p) j = some bk ∧ β j = b) w w' ∧ ∀ j b, lk (plM h (putF x p i s)) j = some b → b.ok β w' (β j) := by
 obtain ⟨hok, hinj, hst⟩ := hp
 obtain ⟨hn, hl, hx⟩ := hh
 obtain ⟨sl, ro, su, gs, ts, lo, n, lc, L⟩ := h
 dsimp only at hn hl hx hi hst
 have hin := (List.getElem?_eq_some_iff.1 hi).1
 obtain ⟨hg1, hg2, ht1, ht2⟩ := hx x (List.mem_of_getElem? hi)
 have hrd0 := hst w (Chg.refl _ _)
 rw [← hn] at hrd0
 obtain ⟨_, ad, rfl, _⟩ := hrd0.ptr (by omega)
 obtain ⟨S, A, B⟩ := p
 dsimp only at hS
 have hga : ∀ s : Int, gAt x s = x.g.toNat * 40 + s.toNat := fun _ => rfl
 have hta : ∀ s : Int, tAt x s = x.t.toNat * 40 + s.toNat := fun _ => rfl
 refine calls_WS env mixed Tryz.func89 has89 Tryz.ntmps89 [.ptr 0 0, .v (iv i), .v (iv s)] (plM ⟨sl, ro, su, gs, ts, some ad, n, lc, L⟩ ⟨S, A, B⟩) (plM ⟨sl, ro, su, gs, ts, some ad, n, lc, L⟩ (putF x ⟨S, A, B⟩ i s)) 3 (.tuple #[]) (Nat.le_of_ble_eq_true rfl) rfl (mPl _ _) (mPl _ _) livePl (Hp := fun w' => Rd 3 Ln.cs (.slice (some ad) L.length lc) L w') (fun h hh => ?_) hok hinj (fun w' hc => by rw [hn]; exact hst w' hc)
 have e1 := fun (w' : World) (hw' : h w') => rd_atz (hh w' hw') hi (i : Int) rfl
 dsimp only [plM, plC]
 by_cases h1 : S i = -1
 · by_cases h2 : s = -1
   · have hpf : putF x ⟨S, A, B⟩ i s = ⟨updF S i s, A, B⟩ := by unfold putF; simp only [if_pos h1, if_pos h2]
     rw [hpf]
     have hup := tbV_setE (n := n) (o := (i : Int).toNat * 1) (p := i) S s (by omega) (by omega)
     repeat'
      conv => whnf
      first
       |refine zB ?_|refine zC ?_|refine zG ?_|refine splNot ?_
       |(refine splD ?_ ?_ <;> intro hc <;> first|(exfalso; omega)|skip)
       |refine eL (Ln.cs x) ⟨⟨rfl, fun w' hw' => e1 w' hw'⟩, ?_⟩
       |refine eL [iv (S i)] ⟨⟨rfl, tbV_one (by show (i : Int).toNat * 1 = i; omega) S (by omega)⟩, ?_⟩
       |refine nlC rfl rfl ?_
       |refine And.intro (a := (_ : Nat) ≤ (tbV _ _).length) (by rw [tbV_len]; show (i : Int).toNat * 1 + 1 ≤ n; omega) ?_
     all_goals exact ⟨fun β => rfl, ⟨rfl, by rw [hup]; rfl, trivial⟩, fun _ h => h, rfl⟩
   · have hpf : putF x ⟨S, A, B⟩ i s = ⟨updF S i s, updF A (gAt x s) i, updF B (tAt x s) i⟩ := by unfold putF; simp only [if_pos h1, if_neg h2]
     rw [hpf]
     have hup := tbV_setE (n := n) (o := (i : Int).toNat * 1) (p := i) S s (by omega) (by omega)
     repeat'
      conv => whnf
      first
       |refine zA ?_|refine zB ?_|refine zC ?_|refine zG ?_|refine splNot ?_
       |(refine splD ?_ ?_ <;> intro hc <;> first|(exfalso; omega)|skip)
       |refine eL (Ln.cs x) ⟨⟨rfl, fun w' hw' => e1 w' hw'⟩, ?_⟩
       |refine eL [iv (S i)] ⟨⟨rfl, tbV_one (by show (i : Int).toNat * 1 = i; omega) S (by omega)⟩, ?_⟩
       |refine nlC rfl rfl ?_
       |refine And.intro (a := (_ : Nat) ≤ (tbV _ _).length) (by rw [tbV_len]; show (i : Int).toNat * 1 + 1 ≤ n; omega) ?_
       |refine spA (k := gAt x (s)) (by rw [hga]; show 0 + 7 + x.g.toNat * 40 + (s).toNat * 1 = _; omega) (by rw [hga]; omega) ?_
       |refine spB (k := tAt x (s)) (by rw [hta]; show 0 + 327 + x.t.toNat * 40 + (s).toNat * 1 = _; omega) (by rw [hta]; omega) ?_
     all_goals exact ⟨fun β => rfl, ⟨rfl, by rw [hup]; rfl, trivial⟩, fun _ h => h, rfl⟩
 · by_cases h2 : s = -1
   · have hpf : putF x ⟨S, A, B⟩ i s = ⟨updF S i s, updF A (gAt x (S i)) (-1), updF B (tAt x (S i)) (-1)⟩ := by unfold putF; simp only [if_neg h1, if_pos h2]
     rw [hpf]
     have hup := tbV_setE (n := n) (o := (i : Int).toNat * 1) (p := i) S s (by omega) (by omega)
     repeat'
      conv => whnf
      first
       |refine zA ?_|refine zB ?_|refine zC ?_|refine zG ?_|refine splNot ?_
       |(refine splD ?_ ?_ <;> intro hc <;> first|(exfalso; omega)|skip)
       |refine eL (Ln.cs x) ⟨⟨rfl, fun w' hw' => e1 w' hw'⟩, ?_⟩
       |refine eL [iv (S i)] ⟨⟨rfl, tbV_one (by show (i : Int).toNat * 1 = i; omega) S (by omega)⟩, ?_⟩
       |refine nlC rfl rfl ?_
       |refine And.intro (a := (_ : Nat) ≤ (tbV _ _).length) (by rw [tbV_len]; show (i : Int).toNat * 1 + 1 ≤ n; omega) ?_
       |refine spA (k := gAt x (S i)) (by rw [hga]; show 0 + 7 + x.g.toNat * 40 + (S i).toNat * 1 = _; omega) (by rw [hga]; omega) ?_
       |refine spB (k := tAt x (S i)) (by rw [hta]; show 0 + 327 + x.t.toNat * 40 + (S i).toNat * 1 = _; omega) (by rw [hta]; omega) ?_
     all_goals exact ⟨fun β => rfl, ⟨rfl, by rw [hup]; rfl, trivial⟩, fun _ h => h, rfl⟩
   · have hpf : putF x ⟨S, A, B⟩ i s = ⟨updF S i s, updF (updF A (gAt x (S i)) (-1)) (gAt x s) i, updF (updF B (tAt x (S i)) (-1)) (tAt x s) i⟩ := by unfold putF; simp only [if_neg h1, if_neg h2]
     rw [hpf]
     have hup := tbV_setE (n := n) (o := (i : Int).toNat * 1) (p := i) S s (by omega) (by omega)
     repeat'
      conv => whnf
      first
       |refine zA ?_|refine zB ?_|refine zC ?_|refine zG ?_|refine splNot ?_
       |(refine splD ?_ ?_ <;> intro hc <;> first|(exfalso; omega)|skip)
       |refine eL (Ln.cs x) ⟨⟨rfl, fun w' hw' => e1 w' hw'⟩, ?_⟩
       |refine eL [iv (S i)] ⟨⟨rfl, tbV_one (by show (i : Int).toNat * 1 = i; omega) S (by omega)⟩, ?_⟩
       |refine nlC rfl rfl ?_
       |refine And.intro (a := (_ : Nat) ≤ (tbV _ _).length) (by rw [tbV_len]; show (i : Int).toNat * 1 + 1 ≤ n; omega) ?_
       |refine spA (k := gAt x (S i)) (by rw [hga]; show 0 + 7 + x.g.toNat * 40 + (S i).toNat * 1 = _; omega) (by rw [hga]; omega) ?_
       |refine spB (k := tAt x (S i)) (by rw [hta]; show 0 + 327 + x.t.toNat * 40 + (S i).toNat * 1 = _; omega) (by rw [hta]; omega) ?_
       |refine spA (k := gAt x (s)) (by rw [hga]; show 0 + 7 + x.g.toNat * 40 + (s).toNat * 1 = _; omega) (by rw [hga]; omega) ?_
       |refine spB (k := tAt x (s)) (by rw [hta]; show 0 + 327 + x.t.toNat * 40 + (s).toNat * 1 = _; omega) (by rw [hta]; omega) ?_
     all_goals exact ⟨fun β => rfl, ⟨rfl, by rw [hup]; rfl, trivial⟩, fun _ h => h, rfl⟩
end Go.Proofs.YtkbfcofifhngfaaGreat
namespace Go.Proofs.YtkbfcofifhngfaaGreat.Tx
open Go Go.RowKit
theorem mB_mem {N : Nat} : ∀ {m : List (Nat × Blk)}, mB N m = true → ∀ i b, (i, b) ∈ m → i < N ∧ b.lt N = true
 | [], _, i, b, h => by cases h
 | (k, x) :: r, h, i, b, hm => by
  simp only [mB, Bool.and_eq_true, Nat.blt_eq] at h
  rcases List.mem_cons.1 hm with hm | hm
  · cases hm; exact h.1
  · exact mB_mem h.2 i b hm
theorem calls_WO {P : Program} (T : Env P) (hm : P.follows .mixedOrders = true) {k : Nat} {fn : Func} {c : Code} (hfn : P.funcs[k]? = some fn) (hb : fn.body = some c) {nt : Nat} (hnt : fn.ntmps = nt) (args : List SV) (m0 m1 : List (Nat × Blk)) (nb0 : Nat) (n sz : Nat) (xs : List Value) (ty : TypeId)
 (hlen : args.length ≤ nt) (hargs : SV.lts nb0 args = true) (hm0 : mB nb0 m0 = true) (hm1 : mB nb0 m1 = true) (hlive : ∀ i b, lk m0 i = some b → b.live = true) (hkeep : ∀ i b, lk m0 i = some b → ∃ b', lk m1 i = some b' ∧ b'.live = true)
 {Hp : World → Prop} (hvc : ∀ h : World → Prop, (∀ w', h w' → Hp w') → VC P c ⟨nt, slotsOf 0 args, m0, nb0, h, ⟨pinG nb0, [], 0⟩⟩ (endΦ T fn fun s σ => ∃ i j, (nb0 ≤ i ∧ s = .os i j n ∧ lk σ.m i = some (.own j n sz xs ty)) ∧ MSub σ.m m1 ∧ (∀ w', σ.h w' → h w') ∧ σ.z.g = pinG nb0))
 {β : Nat → Nat} {w : World} (hok : ∀ i b, lk m0 i = some b → b.ok β w (β i)) (hinj : ∀ i j bi bj, lk m0 i = some bi → lk m0 j = some bj → i ≠ j → β i ≠ β j) (hst : ∀ w', Chg (fun b => ∃ i bk, lk m0 i = some bk ∧ β i = b) w w' → Hp w') :
 Calls P k (SV.cs β args).toArray w fun e w' => ∃ b d, e = .returned (.slice (some ⟨b, 0, none⟩) n d) ∧ w.heap.size ≤ b ∧ Chg (fun b => ∃ i bk, lk m0 i = some bk ∧ β i = b) w w' ∧ (∀ i b, lk m1 i = some b → b.ok β w' (β i)) ∧ w'.ownsRow 0 ty sz (.slice (some ⟨b, 0, none⟩) n d) n xs := by
 have hmk := okB (nt := 0) (t := []) (m := m0) (nb := nb0) (h := fun _ => True) (z := ⟨[], [], 0⟩) rfl hm0 rfl
 have hm1k := okB (nt := 0) (t := []) (m := m1) (nb := nb0) (h := fun _ => True) (z := ⟨[], [], 0⟩) rfl hm1 rfl
 let D : Nat → Prop := fun b => b < w.heap.size ∧ ¬ ∃ i bk, lk m0 i = some bk ∧ β i = b
 let h0 : World → Prop := fun w' => Chg (fun b => ∃ i bk, lk m0 i = some bk ∧ β i = b) w w'
 let X : Cx := ⟨fun k => .pointer (some ⟨β k, 0, none⟩), [], []⟩
 have hmem : Mem ⟨nt, slotsOf 0 args, m0, nb0, h0, ⟨pinG nb0, [], 0⟩⟩ β D w :=
  ⟨hok, fun i j bi bj h1 h2 _ _ hne => hinj i j bi bj h1 h2 hne, fun i b hi _ hD => hD.2 ⟨i, b, hi, rfl⟩, fun b hD => hD.1,
   fun w' hc => ⟨hc.os, hc.tape, hc.output, hc.size, fun b hb hX => hc.same b hb (fun hD => hD ⟨hb, hX⟩)⟩⟩
 have hamb : Amb X ⟨pinG nb0, [], 0⟩ β D w :=
  ⟨fun k s hk => by rw [(pinG_all hk).2]; rfl, fun p hp => (by cases hp), fun i e hi => (by simp [lk] at hi), rfl, List.nodup_nil, fun d hd => (by cases hd)⟩
 have hg0 : ∀ k s, lk (pinG nb0) k = some s → s.lt nb0 = true := fun k s hk => by
  obtain ⟨h1, h2⟩ := pinG_all hk
  subst h2
  simp only [SV.lt, Nat.blt_eq]; exact h1
 refine (calls_VC T hm hfn hb hnt (args := args) (m0 := m0) (nb0 := nb0) (h := h0) (z0 := ⟨pinG nb0, [], 0⟩) hlen hargs hmk.wf.m hg0 (hvc h0 hst) X hamb hmem).mono fun e w' ⟨s, σ', β', D', he, ⟨i0, j0, ⟨hi0, hs0, hm2⟩, h2, h3, h4⟩, h5, h6, h7, h8⟩ => ?_
 have hpin : ∀ i, i < nb0 → β' i = β i := fun i hi => by
  have := h8.g i (.ptr i 0) (by rw [h4]; exact pinG_lk hi)
  simp only [X, SV.c, Value.pointer.injEq, Option.some.injEq, Addr.mk.injEq] at this
  exact this.1.symm
 have hch := h3 w' (h7.h w' (Chg.refl _ _))
 have hown := h7.m i0 _ hm2
 simp only [Blk.ok] at hown
 refine ⟨β' i0, β' j0, by rw [he, hs0]; rfl, Nat.le_of_not_lt fun hlt => ?_, hch, fun i b hi => ?_, hown⟩
 · by_cases hX : ∃ i bk, lk m0 i = some bk ∧ β i = β' i0
   · obtain ⟨i, bk, hi, hib⟩ := hX
     obtain ⟨b', hb', hl'⟩ := hkeep i bk hi
     have hin : i < nb0 := (hmk.wf.m i bk hi).1
     refine h7.inj i i0 b' _ (h2.get i b' hb') hm2 hl' rfl (by omega) ?_
     rw [hpin i hin]; exact hib
   · exact h7.out i0 _ hm2 rfl (h7.holds (w0 := w) (fun w2 hw2 => (h3 w2 hw2).same _ hlt hX) (Nat.lt_of_lt_of_le hlt hch.size))
 · obtain ⟨q1, q2⟩ := hm1k.wf.m i b hi
   have := h7.m i b (h2.get i b hi)
   rw [hpin i q1] at this
   exact Blk.ok_nm (fun j hj => (hpin j hj).symm) b q2 this
theorem callWO {P : Program} {σ : Sg} {k : Nat} {args : List SV} {rs : List Nat} {K : Ef → Prop} {KF : Option KT} (nb : Nat) (rb : List Nat) (m1 : List (Nat × Blk)) (n sz : Nat) (xs : List Value) (ty : TypeId) (hnb : σ.nb = nb)
 (hB : efB σ ⟨.os nb (nb + 1) n, [nb, nb + 1], (nb, .own (nb + 1) n sz xs ty) :: m1, [], rb⟩ = true) (hall : ∀ i ∈ rb, ∃ bk, (i, bk) ∈ m1) (hm1 : mB nb m1 = true)
 (h : ∀ β w, (∀ i ∈ rb, ∀ b, lk σ.m i = some b → b.ok β w (β i)) → (∀ i ∈ rb, ∀ j ∈ rb, ∀ bi bj, lk σ.m i = some bi → lk σ.m j = some bj → bi.live = true → bj.live = true → i ≠ j → β i ≠ β j) →
  (∀ w', Chg (fun b => ∃ i ∈ rb, (∃ bk, lk σ.m i = some bk ∧ bk.live = true) ∧ β i = b) w w' → σ.h w') →
  Calls P k (SV.cs β args).toArray w fun e w' => ∃ b d, e = .returned (.slice (some ⟨b, 0, none⟩) n d) ∧ w.heap.size ≤ b ∧ Chg (fun b => ∃ i ∈ rb, β i = b) w w' ∧ (∀ i b, (i, b) ∈ m1 → b.ok β w' (β i)) ∧ w'.ownsRow 0 ty sz (.slice (some ⟨b, 0, none⟩) n d) n xs)
 (hK : K ⟨.os nb (nb + 1) n, [nb, nb + 1], (nb, .own (nb + 1) n sz xs ty) :: m1, rs, rb⟩) : CallEv P σ k args (efB σ) rs K KF := by
 have hlt : ∀ i b, (i, b) ∈ m1 → i < nb ∧ b.lt nb = true := by
  exact fun i b hm => mB_mem hm1 i b hm
 exact .mk ⟨.os nb (nb + 1) n, [nb, nb + 1], (nb, .own (nb + 1) n sz xs ty) :: m1, [], rb⟩ hB (fun β w h1 h2 hst => (h β w h1 h2 hst).mono fun e w' ⟨b, d, he, hb, hc, ho, hown⟩ => by
  obtain ⟨γ, hγ1, hγ2, hβ⟩ : ∃ γ : Nat → Nat, γ nb = b ∧ γ (nb + 1) = d ∧ ∀ i, i ≠ nb → i ≠ nb + 1 → γ i = β i := ⟨fun i => if i = nb then b else if i = nb + 1 then d else β i, by simp, by simp, fun i h1 h2 => by simp [h1, h2]⟩
  have hn1 : ¬ nb + 1 = nb := by omega
  refine ⟨γ, by rw [he]; simp only [SV.c, hγ1, hγ2], fun i hi => ?_, ⟨hc.os, hc.tape, hc.output, hc.size, fun b' hb' hX => hc.same b' hb' fun ⟨i, hi, hib⟩ => ?_⟩, fun i bk hm => ?_, fun i hi hl => ?_, fun i hi j hj hl hl' hne => ?_⟩
  · simp only [List.mem_cons, List.not_mem_nil, or_false, not_or] at hi
    exact hβ i hi.1 hi.2
  · obtain ⟨bk, hbk⟩ := hall i hi
    have := (hlt i bk hbk).1
    exact hX ⟨i, bk, List.mem_cons_of_mem _ hbk, by simp; omega, hib⟩
  · rcases List.mem_cons.1 hm with hm | hm
    · cases hm
      simp only [Blk.ok, hγ1, hγ2]
      exact hown
    · obtain ⟨q1, q2⟩ := hlt i bk hm
      rw [hβ i (by omega) (by omega)]
      exact Blk.ok_nm (fun j hj => hβ j (by omega) (by omega)) bk q2 (ho i bk hm)
  · simp only [List.mem_cons, List.not_mem_nil, or_false] at hi
    obtain ⟨bk, hm, hlv⟩ := hl
    rcases List.mem_cons.1 hm with hm | hm
    · cases hm; rw [hγ1]; exact .inl hb
    · have := (hlt i bk hm).1; omega
  · simp only [List.mem_cons, List.not_mem_nil, or_false] at hi hj
    obtain ⟨bk, hm, _⟩ := hl
    obtain ⟨bk', hm', _⟩ := hl'
    rcases List.mem_cons.1 hm with hm | hm
    · rcases List.mem_cons.1 hm' with hm' | hm'
      · cases hm; cases hm'; exact absurd rfl hne
      · have := (hlt j bk' hm').1; omega
    · have := (hlt i bk hm).1; omega) hK
end Go.Proofs.YtkbfcofifhngfaaGreat.Tx
namespace Go.Proofs.YtkbfcofifhngfaaGreat
open Go Tx Go.RowKit
def nxP (L : List Ln) (p : Pn) (i : Nat) (s : Int) (te : Bool) : Int := if te = true then p.B (tAt (lnAt L i) s) else p.A (gAt (lnAt L i) s)
def ChL (L : List Ln) (p : Pn) (q : Int) (first : Nat) : List Nat → Int → Bool → Prop
 | [], _, _ => False
 | [i], s, te => i < L.length ∧ (nxP L p i (q - s) te = -1 ∨ nxP L p i (q - s) te = first)
 | i :: j :: r, s, te => (i < L.length ∧ nxP L p i (q - s) te = (j : Int) ∧ j ≠ first) ∧ ChL L p q first (j :: r) (q - s) (!te)
theorem ChL.lt {L : List Ln} {p : Pn} {q : Int} {f : Nat} : ∀ {l : List Nat} {s : Int} {te : Bool}, ChL L p q f l s te → ∀ i ∈ l, i < L.length
 | [i], s, te, h, k, hk => by simp only [List.mem_singleton] at hk; subst hk; exact h.1
 | i :: j :: r, s, te, h, k, hk => by
  rcases List.mem_cons.1 hk with rfl | hk
  · exact h.1.1
  · exact ChL.lt h.2 k hk
def nI (l : List Nat) : List Int := l.map fun i : Nat => (i : Int)
theorem lnAt_get {L : List Ln} {i : Nat} (h : i < L.length) : L[i]? = some (lnAt L i) := by
 unfold lnAt; rw [List.getD_eq_getElem?_getD, List.getElem?_eq_getElem h]; rfl
theorem drAv {h0 h1 h2 h3 h4 h5 h6 : SV} {A B : Nat → Int} {K : List SV → Prop} {off k : Nat} {v : Int} (ho : off = 7 + k) (hk : k < 320) (hv : A k = v) (h : K (.v (iv v) :: (tbS 320 A).drop (k + 1) ++ tbS 320 B)) : dropK off (h0 :: h1 :: h2 :: h3 :: h4 :: h5 :: h6 :: (tbS 320 A ++ tbS 320 B)) K := drA ho hk (hv ▸ h)
theorem drBv {h0 h1 h2 h3 h4 h5 h6 : SV} {A B : Nat → Int} {K : List SV → Prop} {off k : Nat} {v : Int} (ho : off = 327 + k) (hk : k < 320) (hv : B k = v) (h : K (.v (iv v) :: (tbS 320 B).drop (k + 1))) : dropK off (h0 :: h1 :: h2 :: h3 :: h4 :: h5 :: h6 :: (tbS 320 A ++ tbS 320 B)) K := drB ho hk (hv ▸ h)
theorem mB_up {a b : Nat} : ∀ {m : List (Nat × Blk)}, mB a m = true → a ≤ b → mB b m = true
 | [], _, _ => rfl
 | (k, x) :: r, h, hab => by
  simp only [mB, Bool.and_eq_true, Nat.blt_eq] at h ⊢
  exact ⟨⟨by omega, Blk.lt_mono hab x h.1.2⟩, mB_up h.2 hab⟩
theorem mB_app {a : Nat} : ∀ {m m' : List (Nat × Blk)}, mB a m = true → mB a m' = true → mB a (m ++ m') = true
 | [], _, _, h => h
 | (k, x) :: r, m', h, h' => by
  simp only [mB, Bool.and_eq_true, List.cons_append] at h ⊢
  exact ⟨h.1, mB_app h.2 h'⟩
theorem chain_ok (h : PH) (p : Pn) (i : Nat) (a b : Int) (te : Bool) (l : List Nat) (hh : PhOK h) (hl : ChL h.L p (a + b) i (i :: l) (p.S i) te) (hln : (i :: l).length ≤ h.n) (ha : 0 ≤ a ∧ a ≤ 39) (hb : 0 ≤ b ∧ b ≤ 39) (hS : p.S i = a ∨ p.S i = b) {β : Nat → Nat} {w : World} (hp : PlOK h p β w) :
 Calls Tryz.prog 88 (SV.cs β [.ptr 0 0, .v (iv i), .v (iv a), .v (iv b), .v (.bool te)]).toArray w fun e w' => ∃ bb d, e = .returned (.slice (some ⟨bb, 0, none⟩) (i :: l).length d) ∧ w.heap.size ≤ bb ∧ Chg (fun b => ∃ j bk, lk (plM h p) j = some bk ∧ β j = b) w w' ∧ (∀ j b, lk (plM h p) j = some b → b.ok β w' (β j)) ∧ w'.ownsRow 0 3 1 (.slice (some ⟨bb, 0, none⟩) (i :: l).length d) (i :: l).length ((nI (i :: l)).flatMap iF) := by
 obtain ⟨hok, hinj, hst⟩ := hp
 obtain ⟨hn, hnl, hx⟩ := hh
 obtain ⟨sl, ro, su, gs, ts, lo, n, lc, L⟩ := h
 dsimp only at hn hnl hx hl hln hst
 have hlt := hl.lt
 have hrd0 := hst w (Chg.refl _ _)
 rw [← hn] at hrd0
 have hi0 := hlt i List.mem_cons_self
 obtain ⟨_, ad, rfl, _⟩ := hrd0.ptr (by omega)
 obtain ⟨S, A, B⟩ := p
 dsimp only at hS hl
 refine calls_WO env mixed Tryz.func88 has88 Tryz.ntmps88 [.ptr 0 0, .v (iv i), .v (iv a), .v (iv b), .v (.bool te)] (plM ⟨sl, ro, su, gs, ts, some ad, n, lc, L⟩ ⟨S, A, B⟩) (plM ⟨sl, ro, su, gs, ts, some ad, n, lc, L⟩ ⟨S, A, B⟩) 3 _ 1 _ 3 (Nat.le_of_ble_eq_true rfl) rfl (mPl _ _) (mPl _ _) livePl (fun j b hj => ⟨b, hj, livePl j b hj⟩) (Hp := fun w' => Rd 3 Ln.cs (.slice (some ad) L.length lc) L w') (fun h hh => ?_) hok hinj (fun w' hc => by rw [hn]; exact hst w' hc)
 have eg := fun (k : Nat) (hk : k < L.length) (w' : World) (hw' : h w') => rd_fldz (hh w' hw') (lnAt_get hk) (k : Int) rfl 0 (iv (lnAt L k).g) rfl
 have et := fun (k : Nat) (hk : k < L.length) (w' : World) (hw' : h w') => rd_fldz (hh w' hw') (lnAt_get hk) (k : Int) rfl 2 (iv (lnAt L k).t) rfl
 dsimp only [plM, plC]
 refine VC.of env mixed ?_
 repeat'
  conv => whnf
  first
   |refine zB ?_|refine zG ?_
   |refine eL [iv (S i)] ⟨⟨rfl, tbV_one (by show (i : Int).toNat * 1 = i; omega) S (by omega)⟩, ?_⟩
   |refine nlC rfl rfl ?_
 conv => whnf
 refine loopN 5 (fun x : List Nat × List Nat × Int × Bool => [(0, .ptr 0 0), (1, .v (iv (x.2.1.headD 0 : Nat))), (2, .v (iv a)), (3, .v (iv b)), (4, .v (.bool x.2.2.2)), (10, oSV 3 4 (nI x.1)), (11, .v (iv x.2.2.1))]) (fun x => (0, .cells (.v (iv sl) :: .v (iv ro) :: .v (iv su) :: .v gs :: .v ts :: .v (.slice (some ad) n lc) :: .os 1 2 n :: (tbS 320 A ++ tbS 320 B)) 93) :: (1, .own 2 n 1 (tbV n S) 3) :: oM 3 4 1 iF 3 (nI x.1)) (fun x => x.1 ++ x.2.1 = i :: l ∧ ChL L ⟨S, A, B⟩ (a + b) i x.2.1 x.2.2.1 x.2.2.2 ∧ (x.2.2.1 = a ∨ x.2.2.1 = b)) (fun x => x.2.1.length) ([], i :: l, S i, te) ⟨rfl, hl, hS⟩ ⟨rfl, rfl, rfl, rfl, rfl, rfl, rfl, trivial⟩ ⟨rfl, rfl, trivial⟩ (fun x _ => ?_) ?_
 · obtain ⟨pr, su', s, te'⟩ := x
   have hmp := mPl ⟨sl, ro, su, gs, ts, some ad, n, lc, L⟩ ⟨S, A, B⟩
   cases pr with
   | nil => exact ⟨rfl, mB_up hmp (by decide)⟩
   | cons p0 pr => exact ⟨rfl, mB_app (mB_up hmp (by decide)) rfl⟩
 · rintro ⟨pr, sf, s, te'⟩ ⟨hps, hch, hs⟩
   dsimp only at hps hch hs
   cases sf with
   | nil => exact hch.elim
   | cons c r =>
   have hc := hch.lt c List.mem_cons_self
   obtain ⟨hg1, hg2, ht1, ht2⟩ := hx _ (List.mem_of_getElem? (lnAt_get hc))
   have hga : gAt (lnAt L c) (a + b - s) = (lnAt L c).g.toNat * 40 + (a + b - s).toNat := rfl
   have hta : tAt (lnAt L c) (a + b - s) = (lnAt L c).t.toNat * 40 + (a + b - s).toNat := rfl
   have hlen := congrArg List.length hps
   simp only [List.length_append, List.length_cons] at hlen hln
   cases pr with
   | nil =>
    have hci : c = i := by simpa using congrArg (fun l => l.headD 0) hps
    cases te' with
    | false =>
     cases r with
     | nil =>
      have hN : (i :: l).length = 0 + 1 := by rw [← hps]; rfl
      have hX : (nI (i :: l)).flatMap iF = ([] : List Value) ++ [iv (c : Int)] := by rw [← hps]; rfl
      rcases hch.2 with hnx | hnx
      ·
       have hv : A (gAt (lnAt L c) (a + b - s)) = -1 := hnx
       rw [hN, hX]
       change vc env _ ⟨73, [(0, .ptr 0 0), (1, .v (iv (c : Nat))), (2, .v (iv a)), (3, .v (iv b)), (4, .v (.bool false)), (10, .v (.slice none 0 0)), (11, .v (iv s))], (0, .cells (.v (iv sl) :: .v (iv ro) :: .v (iv su) :: .v gs :: .v ts :: .v (.slice (some ad) n lc) :: .os 1 2 n :: (tbS 320 A ++ tbS 320 B)) 93) :: (1, .own 2 n 1 (tbV n S) 3) :: [], 5, h, _⟩ _
       repeat'
        conv => whnf
        first
         |refine zA ?_|refine zB ?_|refine zF ?_|refine zG ?_|refine zI ?_|refine splT ?_|refine splF ?_
         |refine eL [iv (lnAt L c).g] ⟨⟨rfl, fun w' hw' => eg c hc w' hw'⟩, ?_⟩
         |refine drAv (k := gAt (lnAt L c) (a + b - s)) (by rw [hga]; show 0 + 7 + (lnAt L c).g.toNat * 40 + (a + b - s).toNat * 1 = _; omega) (by rw [hga]; omega) hv ?_
         |refine nlC rfl rfl ?_
       conv => whnf
       first | exact ⟨6, 7, ⟨by decide, rfl, rfl⟩, ⟨rfl, rfl, trivial⟩, fun _ h => h, rfl⟩
      ·
       have hv : A (gAt (lnAt L c) (a + b - s)) = (i : Int) := hnx
       rw [hN, hX]
       change vc env _ ⟨73, [(0, .ptr 0 0), (1, .v (iv (c : Nat))), (2, .v (iv a)), (3, .v (iv b)), (4, .v (.bool false)), (10, .v (.slice none 0 0)), (11, .v (iv s))], (0, .cells (.v (iv sl) :: .v (iv ro) :: .v (iv su) :: .v gs :: .v ts :: .v (.slice (some ad) n lc) :: .os 1 2 n :: (tbS 320 A ++ tbS 320 B)) 93) :: (1, .own 2 n 1 (tbV n S) 3) :: [], 5, h, _⟩ _
       have hfirst : ∀ (j : Nat) (v : Value), [iv (i : Int)][j]? = some v → (([] : List Value) ++ [iv (c : Int)])[(0 : Int).toNat * 1 + j]? = some v := by
        intro j v hj
        match j, hj with
        | 0, hj => cases hj; rw [hci]; rfl
       repeat'
        conv => whnf
        first
         |refine zA ?_|refine zB ?_|refine zF ?_|refine zG ?_|refine zI ?_|refine splF ?_
         |(refine splD ?_ ?_ <;> intro hc <;> first|(exfalso; omega)|skip)
         |refine eL [iv (lnAt L c).g] ⟨⟨rfl, fun w' hw' => eg c hc w' hw'⟩, ?_⟩
         |refine drAv (k := gAt (lnAt L c) (a + b - s)) (by rw [hga]; show 0 + 7 + (lnAt L c).g.toNat * 40 + (a + b - s).toNat * 1 = _; omega) (by rw [hga]; omega) hv ?_
         |refine nlC rfl rfl ?_
         |refine eL [iv (i : Int)] ⟨⟨rfl, hfirst⟩, ?_⟩
       conv => whnf
       first | exact ⟨6, 7, ⟨by decide, rfl, rfl⟩, ⟨rfl, rfl, trivial⟩, fun _ h => h, rfl⟩
     | cons j r =>
      have hji := hch.1.2.2
      have hv : A (gAt (lnAt L c) (a + b - s)) = (j : Int) := hch.1.2.1
      change vc env _ ⟨73, [(0, .ptr 0 0), (1, .v (iv (c : Nat))), (2, .v (iv a)), (3, .v (iv b)), (4, .v (.bool false)), (10, .v (.slice none 0 0)), (11, .v (iv s))], (0, .cells (.v (iv sl) :: .v (iv ro) :: .v (iv su) :: .v gs :: .v ts :: .v (.slice (some ad) n lc) :: .os 1 2 n :: (tbS 320 A ++ tbS 320 B)) 93) :: (1, .own 2 n 1 (tbV n S) 3) :: [], 5, h, _⟩ _
      have hfirst : ∀ (j : Nat) (v : Value), [iv (i : Int)][j]? = some v → (([] : List Value) ++ [iv (c : Int)])[(0 : Int).toNat * 1 + j]? = some v := by
       intro j v hj
       match j, hj with
       | 0, hj => cases hj; rw [hci]; rfl
      repeat'
       conv => whnf
       first
        |refine zA ?_|refine zB ?_|refine zF ?_|refine zG ?_|refine zI ?_|refine splF ?_
        |(refine splD ?_ ?_ <;> intro hc <;> first|(exfalso; omega)|skip)
        |refine eL [iv (lnAt L c).g] ⟨⟨rfl, fun w' hw' => eg c hc w' hw'⟩, ?_⟩
        |refine drAv (k := gAt (lnAt L c) (a + b - s)) (by rw [hga]; show 0 + 7 + (lnAt L c).g.toNat * 40 + (a + b - s).toNat * 1 = _; omega) (by rw [hga]; omega) hv ?_
        |refine nlC rfl rfl ?_
        |refine eL [iv (i : Int)] ⟨⟨rfl, hfirst⟩, ?_⟩
      conv => whnf
      first | exact ⟨([c], j :: r, a + b - s, true), ⟨by rw [← hps]; simp, hch.2, by dsimp only; omega⟩, by dsimp only; simp, Ent.ren (rho [(3, 6), (4, 7)]) rfl rfl ⟨rfl, rfl, rfl, rfl, rfl, by rfl, rfl, trivial⟩ ⟨rfl, rfl, by rfl, trivial⟩ (fun _ h => h) ⟨rfl, rfl, rfl, trivial⟩⟩
    | true =>
     cases r with
     | nil =>
      have hN : (i :: l).length = 0 + 1 := by rw [← hps]; rfl
      have hX : (nI (i :: l)).flatMap iF = ([] : List Value) ++ [iv (c : Int)] := by rw [← hps]; rfl
      rcases hch.2 with hnx | hnx
      ·
       have hv : B (tAt (lnAt L c) (a + b - s)) = -1 := hnx
       rw [hN, hX]
       change vc env _ ⟨73, [(0, .ptr 0 0), (1, .v (iv (c : Nat))), (2, .v (iv a)), (3, .v (iv b)), (4, .v (.bool true)), (10, .v (.slice none 0 0)), (11, .v (iv s))], (0, .cells (.v (iv sl) :: .v (iv ro) :: .v (iv su) :: .v gs :: .v ts :: .v (.slice (some ad) n lc) :: .os 1 2 n :: (tbS 320 A ++ tbS 320 B)) 93) :: (1, .own 2 n 1 (tbV n S) 3) :: [], 5, h, _⟩ _
       repeat'
        conv => whnf
        first
         |refine zA ?_|refine zB ?_|refine zF ?_|refine zG ?_|refine zI ?_|refine splT ?_
         |refine eL [iv (lnAt L c).g] ⟨⟨rfl, fun w' hw' => eg c hc w' hw'⟩, ?_⟩
         |refine drA (k := gAt (lnAt L c) (a + b - s)) (by rw [hga]; show 0 + 7 + (lnAt L c).g.toNat * 40 + (a + b - s).toNat * 1 = _; omega) (by rw [hga]; omega) ?_
         |refine eL [iv (lnAt L c).t] ⟨⟨rfl, fun w' hw' => et c hc w' hw'⟩, ?_⟩
         |refine drBv (k := tAt (lnAt L c) (a + b - s)) (by rw [hta]; show 0 + 327 + (lnAt L c).t.toNat * 40 + (a + b - s).toNat * 1 = _; omega) (by rw [hta]; omega) hv ?_
         |refine nlC rfl rfl ?_
       conv => whnf
       first | exact ⟨6, 7, ⟨by decide, rfl, rfl⟩, ⟨rfl, rfl, trivial⟩, fun _ h => h, rfl⟩
      ·
       have hv : B (tAt (lnAt L c) (a + b - s)) = (i : Int) := hnx
       rw [hN, hX]
       change vc env _ ⟨73, [(0, .ptr 0 0), (1, .v (iv (c : Nat))), (2, .v (iv a)), (3, .v (iv b)), (4, .v (.bool true)), (10, .v (.slice none 0 0)), (11, .v (iv s))], (0, .cells (.v (iv sl) :: .v (iv ro) :: .v (iv su) :: .v gs :: .v ts :: .v (.slice (some ad) n lc) :: .os 1 2 n :: (tbS 320 A ++ tbS 320 B)) 93) :: (1, .own 2 n 1 (tbV n S) 3) :: [], 5, h, _⟩ _
       have hfirst : ∀ (j : Nat) (v : Value), [iv (i : Int)][j]? = some v → (([] : List Value) ++ [iv (c : Int)])[(0 : Int).toNat * 1 + j]? = some v := by
        intro j v hj
        match j, hj with
        | 0, hj => cases hj; rw [hci]; rfl
       repeat'
        conv => whnf
        first
         |refine zA ?_|refine zB ?_|refine zF ?_|refine zG ?_|refine zI ?_|refine splT ?_|refine splF ?_
         |(refine splD ?_ ?_ <;> intro hc <;> first|(exfalso; omega)|skip)
         |refine eL [iv (lnAt L c).g] ⟨⟨rfl, fun w' hw' => eg c hc w' hw'⟩, ?_⟩
         |refine drA (k := gAt (lnAt L c) (a + b - s)) (by rw [hga]; show 0 + 7 + (lnAt L c).g.toNat * 40 + (a + b - s).toNat * 1 = _; omega) (by rw [hga]; omega) ?_
         |refine eL [iv (lnAt L c).t] ⟨⟨rfl, fun w' hw' => et c hc w' hw'⟩, ?_⟩
         |refine drBv (k := tAt (lnAt L c) (a + b - s)) (by rw [hta]; show 0 + 327 + (lnAt L c).t.toNat * 40 + (a + b - s).toNat * 1 = _; omega) (by rw [hta]; omega) hv ?_
         |refine nlC rfl rfl ?_
         |refine eL [iv (i : Int)] ⟨⟨rfl, hfirst⟩, ?_⟩
       conv => whnf
       first | exact ⟨6, 7, ⟨by decide, rfl, rfl⟩, ⟨rfl, rfl, trivial⟩, fun _ h => h, rfl⟩
     | cons j r =>
      have hji := hch.1.2.2
      have hv : B (tAt (lnAt L c) (a + b - s)) = (j : Int) := hch.1.2.1
      change vc env _ ⟨73, [(0, .ptr 0 0), (1, .v (iv (c : Nat))), (2, .v (iv a)), (3, .v (iv b)), (4, .v (.bool true)), (10, .v (.slice none 0 0)), (11, .v (iv s))], (0, .cells (.v (iv sl) :: .v (iv ro) :: .v (iv su) :: .v gs :: .v ts :: .v (.slice (some ad) n lc) :: .os 1 2 n :: (tbS 320 A ++ tbS 320 B)) 93) :: (1, .own 2 n 1 (tbV n S) 3) :: [], 5, h, _⟩ _
      have hfirst : ∀ (j : Nat) (v : Value), [iv (i : Int)][j]? = some v → (([] : List Value) ++ [iv (c : Int)])[(0 : Int).toNat * 1 + j]? = some v := by
       intro j v hj
       match j, hj with
       | 0, hj => cases hj; rw [hci]; rfl
      repeat'
       conv => whnf
       first
        |refine zA ?_|refine zB ?_|refine zF ?_|refine zG ?_|refine zI ?_|refine splT ?_|refine splF ?_
        |(refine splD ?_ ?_ <;> intro hc <;> first|(exfalso; omega)|skip)
        |refine eL [iv (lnAt L c).g] ⟨⟨rfl, fun w' hw' => eg c hc w' hw'⟩, ?_⟩
        |refine drA (k := gAt (lnAt L c) (a + b - s)) (by rw [hga]; show 0 + 7 + (lnAt L c).g.toNat * 40 + (a + b - s).toNat * 1 = _; omega) (by rw [hga]; omega) ?_
        |refine eL [iv (lnAt L c).t] ⟨⟨rfl, fun w' hw' => et c hc w' hw'⟩, ?_⟩
        |refine drBv (k := tAt (lnAt L c) (a + b - s)) (by rw [hta]; show 0 + 327 + (lnAt L c).t.toNat * 40 + (a + b - s).toNat * 1 = _; omega) (by rw [hta]; omega) hv ?_
        |refine nlC rfl rfl ?_
        |refine eL [iv (i : Int)] ⟨⟨rfl, hfirst⟩, ?_⟩
      conv => whnf
      first | exact ⟨([c], j :: r, a + b - s, false), ⟨by rw [← hps]; simp, hch.2, by dsimp only; omega⟩, by dsimp only; simp, Ent.ren (rho [(3, 6), (4, 7)]) rfl rfl ⟨rfl, rfl, rfl, rfl, rfl, by rfl, rfl, trivial⟩ ⟨rfl, rfl, by rfl, trivial⟩ (fun _ h => h) ⟨rfl, rfl, rfl, trivial⟩⟩
   | cons p0 pr =>
    have hnl2 : (nI pr).length = pr.length := by simp [nI]
    have hosv : oSV 3 4 (nI (p0 :: (pr ++ [c]))) = .os 3 4 ((nI pr).length + 1 + 1) := by simp [oSV, nI]
    have hom : oM 3 4 1 iF 3 (nI (p0 :: (pr ++ [c]))) = [(3, .own 4 ((nI pr).length + 1 + 1) 1 ((nI (p0 :: pr)).flatMap iF ++ [iv (c : Int)]) 3)] := by simp [oM, nI]
    simp only [List.length_cons] at hlen
    have hp0 : p0 = i := by simpa using congrArg (fun l => l.headD 0) hps
    cases te' with
    | false =>
     cases r with
     | nil =>
      have hN : (i :: l).length = (nI pr).length + 1 + 1 := by rw [← hps]; simp [nI]
      have hX : (nI (i :: l)).flatMap iF = (nI (p0 :: pr)).flatMap iF ++ [iv (c : Int)] := by rw [← hps, nI, List.map_append, List.flatMap_append]; rfl
      rcases hch.2 with hnx | hnx
      ·
       have hv : A (gAt (lnAt L c) (a + b - s)) = -1 := hnx
       rw [hN, hX]
       change vc env _ ⟨73, [(0, .ptr 0 0), (1, .v (iv (c : Nat))), (2, .v (iv a)), (3, .v (iv b)), (4, .v (.bool false)), (10, .os 3 4 ((nI pr).length + 1)), (11, .v (iv s))], (0, .cells (.v (iv sl) :: .v (iv ro) :: .v (iv su) :: .v gs :: .v ts :: .v (.slice (some ad) n lc) :: .os 1 2 n :: (tbS 320 A ++ tbS 320 B)) 93) :: (1, .own 2 n 1 (tbV n S) 3) :: [(3, .own 4 ((nI pr).length + 1) 1 ((nI (p0 :: pr)).flatMap iF) 3)], 5, h, _⟩ _
       repeat'
        conv => whnf
        first
         |refine zA ?_|refine zB ?_|refine zF ?_|refine zG ?_|refine zH ?_|refine zI ?_|refine splT ?_|refine splF ?_
         |refine eL [iv (lnAt L c).g] ⟨⟨rfl, fun w' hw' => eg c hc w' hw'⟩, ?_⟩
         |refine drAv (k := gAt (lnAt L c) (a + b - s)) (by rw [hga]; show 0 + 7 + (lnAt L c).g.toNat * 40 + (a + b - s).toNat * 1 = _; omega) (by rw [hga]; omega) hv ?_
         |refine nlC rfl rfl ?_
       conv => whnf
       first | exact ⟨6, 7, ⟨by decide, rfl, rfl⟩, ⟨rfl, rfl, trivial⟩, fun _ h => h, rfl⟩
      ·
       have hv : A (gAt (lnAt L c) (a + b - s)) = (i : Int) := hnx
       rw [hN, hX]
       change vc env _ ⟨73, [(0, .ptr 0 0), (1, .v (iv (c : Nat))), (2, .v (iv a)), (3, .v (iv b)), (4, .v (.bool false)), (10, .os 3 4 ((nI pr).length + 1)), (11, .v (iv s))], (0, .cells (.v (iv sl) :: .v (iv ro) :: .v (iv su) :: .v gs :: .v ts :: .v (.slice (some ad) n lc) :: .os 1 2 n :: (tbS 320 A ++ tbS 320 B)) 93) :: (1, .own 2 n 1 (tbV n S) 3) :: [(3, .own 4 ((nI pr).length + 1) 1 ((nI (p0 :: pr)).flatMap iF) 3)], 5, h, _⟩ _
       have hfirst : ∀ (j : Nat) (v : Value), [iv (i : Int)][j]? = some v → ((nI (p0 :: pr)).flatMap iF ++ [iv (c : Int)])[(0 : Int).toNat * 1 + j]? = some v := by
        intro j v hj
        match j, hj with
        | 0, hj => cases hj; rw [hp0]; rfl
       repeat'
        conv => whnf
        first
         |refine zA ?_|refine zB ?_|refine zF ?_|refine zG ?_|refine zH ?_|refine zI ?_|refine splF ?_
         |(refine splD ?_ ?_ <;> intro hc <;> first|(exfalso; omega)|skip)
         |refine eL [iv (lnAt L c).g] ⟨⟨rfl, fun w' hw' => eg c hc w' hw'⟩, ?_⟩
         |refine drAv (k := gAt (lnAt L c) (a + b - s)) (by rw [hga]; show 0 + 7 + (lnAt L c).g.toNat * 40 + (a + b - s).toNat * 1 = _; omega) (by rw [hga]; omega) hv ?_
         |refine nlC rfl rfl ?_
         |refine eL [iv (i : Int)] ⟨⟨rfl, hfirst⟩, ?_⟩
       conv => whnf
       first | exact ⟨6, 7, ⟨by decide, rfl, rfl⟩, ⟨rfl, rfl, trivial⟩, fun _ h => h, rfl⟩
     | cons j r =>
      have hji := hch.1.2.2
      have hv : A (gAt (lnAt L c) (a + b - s)) = (j : Int) := hch.1.2.1
      change vc env _ ⟨73, [(0, .ptr 0 0), (1, .v (iv (c : Nat))), (2, .v (iv a)), (3, .v (iv b)), (4, .v (.bool false)), (10, .os 3 4 ((nI pr).length + 1)), (11, .v (iv s))], (0, .cells (.v (iv sl) :: .v (iv ro) :: .v (iv su) :: .v gs :: .v ts :: .v (.slice (some ad) n lc) :: .os 1 2 n :: (tbS 320 A ++ tbS 320 B)) 93) :: (1, .own 2 n 1 (tbV n S) 3) :: [(3, .own 4 ((nI pr).length + 1) 1 ((nI (p0 :: pr)).flatMap iF) 3)], 5, h, _⟩ _
      have hfirst : ∀ (j : Nat) (v : Value), [iv (i : Int)][j]? = some v → ((nI (p0 :: pr)).flatMap iF ++ [iv (c : Int)])[(0 : Int).toNat * 1 + j]? = some v := by
       intro j v hj
       match j, hj with
       | 0, hj => cases hj; rw [hp0]; rfl
      repeat'
       conv => whnf
       first
        |refine zA ?_|refine zB ?_|refine zF ?_|refine zG ?_|refine zH ?_|refine zI ?_|refine splF ?_
        |(refine splD ?_ ?_ <;> intro hc <;> first|(exfalso; omega)|skip)
        |refine eL [iv (lnAt L c).g] ⟨⟨rfl, fun w' hw' => eg c hc w' hw'⟩, ?_⟩
        |refine drAv (k := gAt (lnAt L c) (a + b - s)) (by rw [hga]; show 0 + 7 + (lnAt L c).g.toNat * 40 + (a + b - s).toNat * 1 = _; omega) (by rw [hga]; omega) hv ?_
        |refine nlC rfl rfl ?_
        |refine eL [iv (i : Int)] ⟨⟨rfl, hfirst⟩, ?_⟩
      conv => whnf
      exact ⟨(p0 :: (pr ++ [c]), j :: r, a + b - s, true), ⟨by rw [← hps]; simp, hch.2, by dsimp only; omega⟩, by dsimp only; simp, Ent.ren (rho [(3, 6), (4, 7)]) rfl rfl ⟨rfl, rfl, rfl, rfl, rfl, by rw [hosv]; rfl, rfl, trivial⟩ (by show MRen _ _ (_ :: _ :: oM 3 4 1 iF 3 (nI (p0 :: (pr ++ [c])))); rw [hom]; exact ⟨rfl, rfl, rfl, trivial⟩) (fun _ h => h) ⟨rfl, rfl, rfl, trivial⟩⟩
    | true =>
     cases r with
     | nil =>
      have hN : (i :: l).length = (nI pr).length + 1 + 1 := by rw [← hps]; simp [nI]
      have hX : (nI (i :: l)).flatMap iF = (nI (p0 :: pr)).flatMap iF ++ [iv (c : Int)] := by rw [← hps, nI, List.map_append, List.flatMap_append]; rfl
      rcases hch.2 with hnx | hnx
      ·
       have hv : B (tAt (lnAt L c) (a + b - s)) = -1 := hnx
       rw [hN, hX]
       change vc env _ ⟨73, [(0, .ptr 0 0), (1, .v (iv (c : Nat))), (2, .v (iv a)), (3, .v (iv b)), (4, .v (.bool true)), (10, .os 3 4 ((nI pr).length + 1)), (11, .v (iv s))], (0, .cells (.v (iv sl) :: .v (iv ro) :: .v (iv su) :: .v gs :: .v ts :: .v (.slice (some ad) n lc) :: .os 1 2 n :: (tbS 320 A ++ tbS 320 B)) 93) :: (1, .own 2 n 1 (tbV n S) 3) :: [(3, .own 4 ((nI pr).length + 1) 1 ((nI (p0 :: pr)).flatMap iF) 3)], 5, h, _⟩ _
       repeat'
        conv => whnf
        first
         |refine zA ?_|refine zB ?_|refine zF ?_|refine zG ?_|refine zH ?_|refine zI ?_|refine splT ?_
         |refine eL [iv (lnAt L c).g] ⟨⟨rfl, fun w' hw' => eg c hc w' hw'⟩, ?_⟩
         |refine drA (k := gAt (lnAt L c) (a + b - s)) (by rw [hga]; show 0 + 7 + (lnAt L c).g.toNat * 40 + (a + b - s).toNat * 1 = _; omega) (by rw [hga]; omega) ?_
         |refine eL [iv (lnAt L c).t] ⟨⟨rfl, fun w' hw' => et c hc w' hw'⟩, ?_⟩
         |refine drBv (k := tAt (lnAt L c) (a + b - s)) (by rw [hta]; show 0 + 327 + (lnAt L c).t.toNat * 40 + (a + b - s).toNat * 1 = _; omega) (by rw [hta]; omega) hv ?_
         |refine nlC rfl rfl ?_
       conv => whnf
       first | exact ⟨6, 7, ⟨by decide, rfl, rfl⟩, ⟨rfl, rfl, trivial⟩, fun _ h => h, rfl⟩
      ·
       have hv : B (tAt (lnAt L c) (a + b - s)) = (i : Int) := hnx
       rw [hN, hX]
       change vc env _ ⟨73, [(0, .ptr 0 0), (1, .v (iv (c : Nat))), (2, .v (iv a)), (3, .v (iv b)), (4, .v (.bool true)), (10, .os 3 4 ((nI pr).length + 1)), (11, .v (iv s))], (0, .cells (.v (iv sl) :: .v (iv ro) :: .v (iv su) :: .v gs :: .v ts :: .v (.slice (some ad) n lc) :: .os 1 2 n :: (tbS 320 A ++ tbS 320 B)) 93) :: (1, .own 2 n 1 (tbV n S) 3) :: [(3, .own 4 ((nI pr).length + 1) 1 ((nI (p0 :: pr)).flatMap iF) 3)], 5, h, _⟩ _
       have hfirst : ∀ (j : Nat) (v : Value), [iv (i : Int)][j]? = some v → ((nI (p0 :: pr)).flatMap iF ++ [iv (c : Int)])[(0 : Int).toNat * 1 + j]? = some v := by
        intro j v hj
        match j, hj with
        | 0, hj => cases hj; rw [hp0]; rfl
       repeat'
        conv => whnf
        first
         |refine zA ?_|refine zB ?_|refine zF ?_|refine zG ?_|refine zH ?_|refine zI ?_|refine splT ?_|refine splF ?_
         |(refine splD ?_ ?_ <;> intro hc <;> first|(exfalso; omega)|skip)
         |refine eL [iv (lnAt L c).g] ⟨⟨rfl, fun w' hw' => eg c hc w' hw'⟩, ?_⟩
         |refine drA (k := gAt (lnAt L c) (a + b - s)) (by rw [hga]; show 0 + 7 + (lnAt L c).g.toNat * 40 + (a + b - s).toNat * 1 = _; omega) (by rw [hga]; omega) ?_
         |refine eL [iv (lnAt L c).t] ⟨⟨rfl, fun w' hw' => et c hc w' hw'⟩, ?_⟩
         |refine drBv (k := tAt (lnAt L c) (a + b - s)) (by rw [hta]; show 0 + 327 + (lnAt L c).t.toNat * 40 + (a + b - s).toNat * 1 = _; omega) (by rw [hta]; omega) hv ?_
         |refine nlC rfl rfl ?_
         |refine eL [iv (i : Int)] ⟨⟨rfl, hfirst⟩, ?_⟩
       conv => whnf
       first | exact ⟨6, 7, ⟨by decide, rfl, rfl⟩, ⟨rfl, rfl, trivial⟩, fun _ h => h, rfl⟩
     | cons j r =>
      have hji := hch.1.2.2
      have hv : B (tAt (lnAt L c) (a + b - s)) = (j : Int) := hch.1.2.1
      change vc env _ ⟨73, [(0, .ptr 0 0), (1, .v (iv (c : Nat))), (2, .v (iv a)), (3, .v (iv b)), (4, .v (.bool true)), (10, .os 3 4 ((nI pr).length + 1)), (11, .v (iv s))], (0, .cells (.v (iv sl) :: .v (iv ro) :: .v (iv su) :: .v gs :: .v ts :: .v (.slice (some ad) n lc) :: .os 1 2 n :: (tbS 320 A ++ tbS 320 B)) 93) :: (1, .own 2 n 1 (tbV n S) 3) :: [(3, .own 4 ((nI pr).length + 1) 1 ((nI (p0 :: pr)).flatMap iF) 3)], 5, h, _⟩ _
      have hfirst : ∀ (j : Nat) (v : Value), [iv (i : Int)][j]? = some v → ((nI (p0 :: pr)).flatMap iF ++ [iv (c : Int)])[(0 : Int).toNat * 1 + j]? = some v := by
       intro j v hj
       match j, hj with
       | 0, hj => cases hj; rw [hp0]; rfl
      repeat'
       conv => whnf
       first
        |refine zA ?_|refine zB ?_|refine zF ?_|refine zG ?_|refine zH ?_|refine zI ?_|refine splT ?_|refine splF ?_
        |(refine splD ?_ ?_ <;> intro hc <;> first|(exfalso; omega)|skip)
        |refine eL [iv (lnAt L c).g] ⟨⟨rfl, fun w' hw' => eg c hc w' hw'⟩, ?_⟩
        |refine drA (k := gAt (lnAt L c) (a + b - s)) (by rw [hga]; show 0 + 7 + (lnAt L c).g.toNat * 40 + (a + b - s).toNat * 1 = _; omega) (by rw [hga]; omega) ?_
        |refine eL [iv (lnAt L c).t] ⟨⟨rfl, fun w' hw' => et c hc w' hw'⟩, ?_⟩
        |refine drBv (k := tAt (lnAt L c) (a + b - s)) (by rw [hta]; show 0 + 327 + (lnAt L c).t.toNat * 40 + (a + b - s).toNat * 1 = _; omega) (by rw [hta]; omega) hv ?_
        |refine nlC rfl rfl ?_
        |refine eL [iv (i : Int)] ⟨⟨rfl, hfirst⟩, ?_⟩
      conv => whnf
      exact ⟨(p0 :: (pr ++ [c]), j :: r, a + b - s, false), ⟨by rw [← hps]; simp, hch.2, by dsimp only; omega⟩, by dsimp only; simp, Ent.ren (rho [(3, 6), (4, 7)]) rfl rfl ⟨rfl, rfl, rfl, rfl, rfl, by rw [hosv]; rfl, rfl, trivial⟩ (by show MRen _ _ (_ :: _ :: oM 3 4 1 iF 3 (nI (p0 :: (pr ++ [c])))); rw [hom]; exact ⟨rfl, rfl, rfl, trivial⟩) (fun _ h => h) ⟨rfl, rfl, rfl, trivial⟩⟩
end Go.Proofs.YtkbfcofifhngfaaGreat
namespace Go.Proofs.YtkbfcofifhngfaaGreat.Tx
open Go Go.RowKit
theorem mkO1 {P : Program} (T : Env P) {dst : Option Tmp} {ty : TypeId} {pos : String} {after : Array Edge} {gd : Option (Nat × Bool)} {gs : List Nat} {σ : Sg} {K : Ef → Prop} {KF : Option KT} {t e : Nat} {x : Operand} (nb m : Nat) (xs : List Value)
 {sz : Nat} {zr : List Value} {by_ : Nat} {ti : TI} (hx : gv σ x = some (.v (iv m))) (ht : T.ty t = some ⟨sz, zr, by_, .slice e⟩) (he : T.ty e = some ti)
 (h01 : 0 < ti.size) (h03 : ti.zero.length = ti.size) (hm : m ≤ 10000) (hby : ti.bytes ≤ 1000) (hxs : xs = (List.replicate m ti.zero).flatten)
 (hB : efB σ ⟨.os nb (nb + 1) m, [nb, nb + 1], [(nb, .own (nb + 1) m ti.size xs e)], gs ++ os x, []⟩ = true) (hK : K ⟨.os nb (nb + 1) m, [nb, nb + 1], [(nb, .own (nb + 1) m ti.size xs e)], gs ++ os x, []⟩) :
 OpEvS P ⟨dst, .makeSlice t x x, ty, pos, after, gd⟩ gs σ K KF := by
 subst hxs
 refine .mk _ hB (fun k hk => by simp [hk]) rfl (fun β a w hss => ?_) hK
 have e1 := gv_eval hss hx (fun k hk => by simp [hk])
 have hzl : ((List.replicate m ti.zero).flatten).length = m * ti.size := by
  simp [List.length_flatten, h03]
 refine ⟨fun j => if j = nb then w.heap.size else if j = nb + 1 then m else β j, w.alloc (.cells ((List.replicate m ti.zero).flatten).toArray e), ⟨fun i hi => ?_, ⟨rfl, rfl, rfl, by show w.heap.size ≤ (w.heap.push _).size; rw [Array.size_push]; omega, fun b hb _ => ?_⟩, fun i bk hi => ?_, fun i hi hL => ?_, fun i hi j hj hL hL' hne => ?_⟩, .inl ?_⟩
 · simp only [List.mem_cons, List.not_mem_nil, or_false, not_or] at hi
   simp [hi.1, hi.2]
 · simp only [World.alloc, Array.getElem?_push]
   rw [if_neg (show ¬ b = w.heap.size by omega)]
 · simp only [List.mem_singleton, Prod.mk.injEq] at hi
   obtain ⟨rfl, rfl⟩ := hi
   have hn1 : ¬ (i + 1 = i) := by omega
   simp only [Blk.ok, if_true, if_neg hn1]
   refine ⟨hzl, .inr ⟨w.heap.size, m, _, rfl, Nat.zero_le _, ?_, Nat.le_refl _, by unfold maxLen; omega, by rw [List.size_toArray, hzl], ?_⟩⟩
   · show (w.heap.push _)[w.heap.size]? = _
     rw [Array.getElem?_push, if_pos rfl]
   · rw [← hzl, List.toList_toArray, List.take_length]
 · obtain ⟨bk, hbk, _⟩ := hL
   simp only [List.mem_singleton, Prod.mk.injEq] at hbk
   obtain ⟨rfl, _⟩ := hbk
   exact .inl (by simp)
 · obtain ⟨bk, hbk, _⟩ := hL
   obtain ⟨bk', hbk', _⟩ := hL'
   simp only [List.mem_singleton, Prod.mk.injEq] at hbk hbk'
   exact absurd (hbk.1.trans hbk'.1.symm) hne
 obtain ⟨i, z, q1, q2, q3, q4, q5⟩ := (T.tok e ti he).row
 have hu := under_slice (T.tok t _ ht) rfl
 have hzc : (Array.range (m * ti.size)).map (fun i => z.cells[i % z.cells.size]!) = (List.replicate m ti.zero).flatten.toArray := by
  have hzz : z.cells = ti.zero.toArray := by rw [← q4]
  have hzs : z.cells.size = ti.size := by rw [hzz]; simpa using h03
  have := rep_zero (z := ti.zero) (by omega) m
  rw [h03] at this
  rw [← this, hzs, hzz]
 have hw1 : IntKind.i64.wrap (m : Int) = m := IR.wrap (And.intro (by omega) (by omega))
 have hn1 : ¬ (nb + 1 = nb) := by omega
 simp only [execOp, Instr.makeSlice, Sem.run_bind, Go.run_underlying hu w, Result.andThen_ok, e1, SV.c, asInt, asIntOf, Sem.run_pure, hw1, if_true, if_neg hn1]
 have hti : (typeInfo e).run P w = .ok i w := by simp [typeInfo, q1]
 have hb2 : (i.bytes : Int) * m ≤ 1000 * 10000 := by
  rw [q5]
  exact Int.mul_le_mul (by omega) (by omega) (by omega) (by omega)
 have c1 : (decide ((m : Int) < 0) || decide ((i.bytes : Int) * m > 2 ^ 48) || decide ((m : Int) < 0) || decide ((m : Int) > m)) = false := by
  simp; omega
 rw [hti]
 simp only [Result.andThen_ok, c1, Bool.false_eq_true, if_false, Sem.run_bind, askRoom, Int.toNat_natCast]
 have hroom : ¬ (m * i.bytes > roomBytes) := by
  have h2 : m * ti.bytes ≤ 10000 * 1000 := Nat.mul_le_mul hm hby
  rw [q5]
  simp only [roomBytes]
  omega
 rw [if_neg hroom]
 simp only [Sem.run_pure, Result.andThen_ok, (T.tok e ti he).run_sizeOf w]
 by_cases hm0 : m * ti.size = 0
 · have hm00 : m = 0 := by
    rcases Nat.mul_eq_zero.1 hm0 with h | h
    · exact h
    · omega
   subst hm00
   rw [if_pos hm0]
   simp [newRow, Sem.run_bind, Sem.run_pure]
   congr 2
   exact Array.eq_empty_of_size_eq_zero (by simp)
 · rw [if_neg hm0]
   have hzr : (zeroValue e).run P w = .ok z w := by simp [zeroValue, typeInfo, q1, q3]
   simp only [Sem.run_bind, hzr, Sem.run_pure, Result.andThen_ok]
   rw [hzc]
   simp [newRow, SV.c]
end Go.Proofs.YtkbfcofifhngfaaGreat.Tx
namespace Go.Proofs.YtkbfcofifhngfaaGreat
open Go Tx Go.RowKit
def PlTo (k : Nat) (args : List SV) (h : PH) (p p' : Pn) : Prop := ∀ (β : Nat → Nat) (w : World), PlOK h p β w →
 Calls Tryz.prog k (SV.cs β args).toArray w fun e w' => e = .returned (.tuple #[]) ∧ Chg (fun b => ∃ j bk, lk (plM h p) j = some bk ∧ β j = b) w w' ∧ ∀ j b, lk (plM h p') j = some b → b.ok β w' (β j)
theorem plM_lk {h : PH} {p : Pn} {j : Nat} {b : Blk} (hj : lk (plM h p) j = some b) : (j = 0 ∧ b = .cells (plC h p) 93) ∨ (j = 1 ∧ b = .own 2 h.n 1 (tbV h.n p.S) 3) := by
 by_cases h0 : j = 0
 · subst h0; rw [lk_cons_eq] at hj; cases hj; exact .inl ⟨rfl, rfl⟩
 · rw [lk_cons_ne h0] at hj
   by_cases h1 : j = 1
   · subst h1; rw [lk_cons_eq] at hj; cases hj; exact .inr ⟨rfl, rfl⟩
   · rw [lk_cons_ne h1] at hj; cases hj
theorem plOK_of {h : PH} {p : Pn} {σ : Sg} (e0 : lk σ.m 0 = some (.cells (plC h p) 93)) (e1 : lk σ.m 1 = some (.own 2 h.n 1 (tbV h.n p.S) 3)) {β : Nat → Nat} {w : World}
 (h1 : ∀ i ∈ [0, 1], ∀ b, lk σ.m i = some b → b.ok β w (β i)) (h2 : ∀ i ∈ [0, 1], ∀ j ∈ [0, 1], ∀ bi bj, lk σ.m i = some bi → lk σ.m j = some bj → bi.live = true → bj.live = true → i ≠ j → β i ≠ β j)
 (hrd : ∀ w', Chg (fun b => ∃ j bk, lk (plM h p) j = some bk ∧ β j = b) w w' → Rd 3 Ln.cs (.slice h.lo h.n h.lc) h.L w') : PlOK h p β w := by
 have key : ∀ j b, lk (plM h p) j = some b → j ∈ [0, 1] ∧ lk σ.m j = some b := fun j b hj => by
  rcases plM_lk hj with ⟨rfl, rfl⟩ | ⟨rfl, rfl⟩
  · exact ⟨by simp, e0⟩
  · exact ⟨by simp, e1⟩
 exact ⟨fun j b hj => h1 j (key j b hj).1 b (key j b hj).2, fun j k bj bk hj hk hne => h2 j (key j bj hj).1 k (key k bk hk).1 bj bk (key j bj hj).2 (key k bk hk).2 (livePl j bj hj) (livePl k bk hk) hne, hrd⟩
theorem callPl {σ : Sg} {k : Nat} {args : List SV} {rs : List Nat} {K : Ef → Prop} {KF : Option KT} (h : PH) (p p' : Pn) (hC : PlTo k args h p p')
 (e0 : lk σ.m 0 = some (.cells (plC h p) 93)) (e1 : lk σ.m 1 = some (.own 2 h.n 1 (tbV h.n p.S) 3)) (hnb : 3 ≤ σ.nb) (hrd : ∀ w', σ.h w' → Rd 3 Ln.cs (.slice h.lo h.n h.lc) h.L w')
 (hK : K ⟨.v (.tuple #[]), [], plM h p', rs, [0, 1]⟩) : CallEv Tryz.prog σ k args (efB σ) rs K KF := by
 have hlt := mB_up (mPl h p') hnb
 refine callWS [0, 1] (plM h p') (.tuple #[]) ?_ (fun i hi => ?_) (fun β w h1 h2 hst => ?_) hK
 · have h01 : Nat.blt 0 σ.nb = true := by rw [Nat.blt_eq]; omega
   have h11 : Nat.blt 1 σ.nb = true := by rw [Nat.blt_eq]; omega
   have h21 : Nat.blt 2 σ.nb = true := by rw [Nat.blt_eq]; omega
   simp [efB, eqs, modsLt, oldB, keysB, nodupB, SV.lt, nin, e0, e1, Blk.live, Blk.lt, SV.lts, h01, h11, h21, lts_append (tbS_lt _ _ _) (tbS_lt _ _ _)]
   rfl
 · simp only [List.mem_cons, List.not_mem_nil, or_false] at hi
   rcases hi with rfl | rfl
   · exact ⟨_, List.mem_cons_self⟩
   · exact ⟨_, List.mem_cons_of_mem _ List.mem_cons_self⟩
 · have hsub : ∀ b, (∃ j bk, lk (plM h p) j = some bk ∧ β j = b) → ∃ i ∈ [0, 1], (∃ bk, lk σ.m i = some bk ∧ bk.live = true) ∧ β i = b := fun b ⟨j, bk, hj, hb⟩ => by
    rcases plM_lk hj with ⟨rfl, rfl⟩ | ⟨rfl, rfl⟩
    · exact ⟨0, by simp, ⟨_, e0, rfl⟩, hb⟩
    · exact ⟨1, by simp, ⟨_, e1, rfl⟩, hb⟩
   refine (hC β w (plOK_of e0 e1 h1 h2 fun w' hc => hrd w' (hst w' ⟨hc.os, hc.tape, hc.output, hc.size, fun b hb hX => hc.same b hb fun hX2 => hX (hsub b hX2)⟩))).mono fun e w' ⟨q1, q2, q3⟩ => ⟨q1, ⟨q2.os, q2.tape, q2.output, q2.size, fun b hb hX => q2.same b hb fun hX2 => ?_⟩, fun i b hi => q3 i b ?_⟩
   · obtain ⟨i, hi, _, hib⟩ := hsub b hX2
     exact hX ⟨i, hi, hib⟩
   · simp only [plM, List.mem_cons, Prod.mk.injEq, List.not_mem_nil, or_false] at hi
     rcases hi with ⟨rfl, rfl⟩ | ⟨rfl, rfl⟩ <;> rfl
theorem put_to (h : PH) (p : Pn) (i : Nat) (x : Ln) (s : Int) (hh : PhOK h) (hi : h.L[i]? = some x) (hS : -1 ≤ p.S i ∧ p.S i ≤ 39) (hs : -1 ≤ s ∧ s ≤ 39) : PlTo 89 [.ptr 0 0, .v (iv i), .v (iv s)] h p (putF x p i s) :=
 fun β w hp => put_ok h p i x s hh hi hS hs hp
def offF (L : List Ln) : List Nat → Pn → Pn
 | [], p => p
 | i :: r, p => offF L r (putF (lnAt L i) p i (-1))
def onF (L : List Ln) (f : Nat → Int) : List Nat → Pn → Pn
 | [], p => p
 | i :: r, p => onF L f r (putF (lnAt L i) p i (f i))
def turnF (L : List Ln) (q : Int) (l : List Nat) (p : Pn) : Pn := onF L (fun i => q - p.S i) l (offF L l p)
theorem putF_S (x : Ln) (p : Pn) (i : Nat) (s : Int) : (putF x p i s).S = updF p.S i s := by
 unfold putF
 dsimp only
 split <;> rfl
theorem offF_S (L : List Ln) : ∀ (l : List Nat) (p : Pn) (j : Nat), (offF L l p).S j = if j ∈ l then -1 else p.S j
 | [], p, j => by simp [offF]
 | i :: r, p, j => by
  rw [offF, offF_S L r, putF_S]
  unfold updF
  by_cases hr : j ∈ r
  · simp [hr]
  · by_cases hi : j = i <;> simp [hr, hi]
theorem onF_S (L : List Ln) (f : Nat → Int) : ∀ (l : List Nat) (p : Pn) (j : Nat), (onF L f l p).S j = if j ∈ l then f j else p.S j
 | [], p, j => by simp [onF]
 | i :: r, p, j => by
  rw [onF, onF_S L f r, putF_S]
  unfold updF
  by_cases hr : j ∈ r
  · simp [hr]
  · by_cases hi : j = i
    · subst hi; simp
    · simp [hr, hi]
theorem offF_take {L : List Ln} {l : List Nat} {k i : Nat} (hk : l[k]? = some i) (p : Pn) : offF L (l.take (k + 1)) p = putF (lnAt L i) (offF L (l.take k) p) i (-1) := by
 induction l generalizing k p with
 | nil => simp at hk
 | cons a l ih =>
  cases k with
  | zero => simp only [List.getElem?_cons_zero, Option.some.injEq] at hk; subst hk; simp [offF]
  | succ k => simp only [List.getElem?_cons_succ] at hk; rw [List.take_succ_cons, offF, ih hk, List.take_succ_cons, offF]
theorem onF_take {L : List Ln} {f : Nat → Int} {l : List Nat} {k i : Nat} (hk : l[k]? = some i) (p : Pn) : onF L f (l.take (k + 1)) p = putF (lnAt L i) (onF L f (l.take k) p) i (f i) := by
 induction l generalizing k p with
 | nil => simp at hk
 | cons a l ih =>
  cases k with
  | zero => simp only [List.getElem?_cons_zero, Option.some.injEq] at hk; subst hk; simp [onF]
  | succ k => simp only [List.getElem?_cons_succ] at hk; rw [List.take_succ_cons, onF, ih hk, List.take_succ_cons, onF]
end Go.Proofs.YtkbfcofifhngfaaGreat
namespace Go.Proofs.YtkbfcofifhngfaaGreat
open Go Tx Go.RowKit
theorem nI_get {l : List Nat} {k i : Nat} (h : l[k]? = some i) : (nI l)[k]? = some (i : Int) := by unfold nI; rw [List.getElem?_map, h]; rfl
theorem mem_take_lt {l : List Nat} (hnd : l.Nodup) {k i : Nat} (h : l[k]? = some i) (m : Nat) : i ∈ l.take m ↔ k < m := by
 constructor
 · intro hm
   obtain ⟨j, hj, he⟩ := List.mem_take_iff_getElem.1 hm
   obtain ⟨hk, he2⟩ := List.getElem?_eq_some_iff.1 h
   have : j = k := (List.getElem_inj hnd).1 (he.trans he2.symm)
   omega
 · intro hm
   obtain ⟨hk, he2⟩ := List.getElem?_eq_some_iff.1 h
   exact List.mem_take_iff_getElem.2 ⟨k, by omega, he2⟩
theorem turn_ok (h : PH) (p : Pn) (a b : Int) (l : List Nat) (hh : PhOK h) (hnd : l.Nodup) (hll : ∀ i ∈ l, i < h.L.length) (hSl : ∀ i ∈ l, p.S i = a ∨ p.S i = b) (ha : 0 ≤ a ∧ a ≤ 39) (hb : 0 ≤ b ∧ b ≤ 39) (ad : Addr) (c : Nat) {β : Nat → Nat} {w : World} (hp : PlOK h p β w)
 (hlr : ∀ w', Chg (fun b => ∃ j bk, lk (plM h p) j = some bk ∧ β j = b) w w' → Rd 1 iF (.slice (some ad) (nI l).length c) (nI l) w') :
 Calls Tryz.prog 87 (SV.cs β [.ptr 0 0, .v (.slice (some ad) (nI l).length c), .v (iv a), .v (iv b)]).toArray w fun e w' => e = .returned (.tuple #[]) ∧ Chg (fun b => ∃ j bk, lk (plM h p) j = some bk ∧ β j = b) w w' ∧ ∀ j bk, lk (plM h (turnF h.L (a + b) l p)) j = some bk → bk.ok β w' (β j) := by
 obtain ⟨hok, hinj, hst⟩ := hp
 have hput := fun (p' : Pn) (i : Nat) (s : Int) (hi : i < h.L.length) => put_to h p' i (lnAt h.L i) s hh (lnAt_get hi)
 obtain ⟨hn, hnl, hx⟩ := hh
 obtain ⟨sl, ro, su, gs, ts, lo, n, lc, L⟩ := h
 dsimp only at hn hnl hx hst hll hput
 have hlen : (nI l).length = l.length := by simp [nI]
 have hl1 : l.length ≤ n := by
  rw [← hn]
  have h1 := List.Nodup.length_le_of_subset hnd (l₂ := List.range L.length) (fun i hi => List.mem_range.2 (hll i hi))
  simpa using h1
 refine calls_WS env mixed Tryz.func87 has87 Tryz.ntmps87 [.ptr 0 0, .v (.slice (some ad) (nI l).length c), .v (iv a), .v (iv b)] (plM ⟨sl, ro, su, gs, ts, lo, n, lc, L⟩ p) (plM ⟨sl, ro, su, gs, ts, lo, n, lc, L⟩ (turnF L (a + b) l p)) 3 (.tuple #[]) (Nat.le_of_ble_eq_true rfl) rfl (mPl _ _) (mPl _ _) livePl (Hp := fun w' => Rd 3 Ln.cs (.slice lo n lc) L w' ∧ Rd 1 iF (.slice (some ad) (nI l).length c) (nI l) w') (fun h hh => ?_) hok hinj (fun w' hc => ⟨hst w' hc, hlr w' hc⟩)
 have e1 := fun (k i : Nat) (hk : l[k]? = some i) (w' : World) (hw' : h w') => rd_ati (hh w' hw').2 (nI_get hk)
 have hrd := fun (w' : World) (hw' : h w') => (hh w' hw').1
 generalize hm : (nI l).length = m at *
 obtain ⟨FF, hFF⟩ : ∃ FF : Nat → Nat → Int, (fun k j => if j < k then a + b - p.S (l.getD j 0) else 0) = FF := ⟨_, rfl⟩
 dsimp only [plM, plC]
 repeat'
  conv => whnf
  first
   |refine mkO1 env 3 m (tbV m fun _ => 0) rfl rfl rfl (by decide) rfl (by omega) (by decide) (mk0 _) rfl ?_
 have hF0 : tbV m (FF 0) = tbV m fun _ => 0 := by
  rw [← hFF]
  unfold tbV
  refine List.map_congr_left fun j _ => ?_
  simp
 refine loopN 5 (fun k : Nat => [(0, .ptr 0 0), (1, .v (.slice (some ad) m c)), (2, .v (iv a)), (3, .v (iv b)), (8, .os 3 4 m), (16, .v (.slice (some ad) m c)), (17, .v (iv m)), (18, .v (iv k))]) (fun k => (0, .cells (.v (iv sl) :: .v (iv ro) :: .v (iv su) :: .v gs :: .v ts :: .v (.slice lo n lc) :: .os 1 2 n :: (tbS 320 (offF L (l.take k) p).A ++ tbS 320 (offF L (l.take k) p).B)) 93) :: (1, .own 2 n 1 (tbV n (offF L (l.take k) p).S) 3) :: [(3, .own 4 m 1 (tbV m (FF k)) 3)]) (fun k => k ≤ m) (fun k => m - k) 0 (Nat.zero_le _) ⟨rfl, rfl, rfl, rfl, rfl, rfl, rfl, rfl, trivial⟩ ⟨rfl, rfl, by rw [hF0]; rfl, trivial⟩ (fun k _ => ⟨rfl, ?_⟩) ?_
 · exact mB_app (mB_up (mPl ⟨sl, ro, su, gs, ts, lo, n, lc, L⟩ (offF L (l.take k) p)) (by decide)) rfl
 · intro k hk
   rcases Nat.lt_or_ge k m with hkm | hkm
   · obtain ⟨i, hki⟩ : ∃ i, l[k]? = some i := ⟨_, List.getElem?_eq_getElem (by omega)⟩
     have him := List.mem_of_getElem? hki
     have hil := hll i him
     have hSi := hSl i him
     have e1 := e1 k i hki
     have hP1 := offF_take (L := L) hki p
     have hPS : (offF L (l.take k) p).S i = p.S i := by
      rw [offF_S, if_neg (fun hm => by have := (mem_take_lt hnd hki k).1 hm; omega)]
     have hgd : l.getD k 0 = i := by rw [List.getD_eq_getElem?_getD, hki]; rfl
     have hFk : FF (k + 1) = updF (FF k) k (a + b - p.S i) := by
      rw [← hFF]
      funext j
      show (if j < k + 1 then a + b - p.S (l.getD j 0) else 0) = (if j = k then a + b - p.S i else (if j < k then a + b - p.S (l.getD j 0) else 0))
      by_cases h1 : j = k
      · rw [if_pos h1, if_pos (by omega), h1, hgd]
      · rw [if_neg h1]
        by_cases h2 : j < k
        · rw [if_pos h2, if_pos (by omega)]
        · rw [if_neg h2, if_neg (by omega)]
     have hup := tbV_setE (n := m) (o := (k : Int).toNat * 1) (p := k) (FF k) (a + b - p.S i) (by omega) hkm
     generalize offF L (l.take k) p = P at *
     have hro : ∀ (j : Nat) (v : Value), [iv (p.S i)][j]? = some v → (tbV n P.S)[(i : Int).toNat * 1 + j]? = some v := by
      rw [← hPS]; exact tbV_one (by omega) P.S (by omega)
     have hPb : -1 ≤ P.S i ∧ P.S i ≤ 39 := by rw [hPS]; omega
     repeat'
      conv => whnf
      first
       |refine zB ?_|refine zC ?_|refine zD ?_|refine zF ?_|refine zG ?_
       |(refine splD ?_ ?_ <;> intro hc <;> first|(exfalso; omega)|skip)
       |refine eL [iv (i : Int)] ⟨⟨rfl, fun w' hw' => e1 w' hw'⟩, ?_⟩
       |refine eL [iv (p.S i)] ⟨⟨rfl, hro⟩, ?_⟩
       |refine nlC rfl rfl ?_
       |refine And.intro (a := (_ : Nat) ≤ (tbV _ _).length) (by rw [tbV_len]; show (k : Int).toNat * 1 + 1 ≤ m; omega) ?_
       |(with_reducible show CallEv _ _ 89 ..); refine callPl ⟨sl, ro, su, gs, ts, lo, n, lc, L⟩ P (putF (lnAt L i) P i (-1)) (hput P i (-1) hil (hPb) (by omega)) rfl rfl (Nat.le_of_ble_eq_true rfl) hrd ?_
     conv => whnf
     exact ⟨k + 1, by omega, by omega, Ent.weak rfl ⟨rfl, rfl, rfl, rfl, rfl, rfl, rfl, rfl, trivial⟩ ⟨by rw [hP1]; rfl, by rw [hP1]; rfl, by rw [hFk, hup]; rfl, trivial⟩ fun _ h => h⟩
   · obtain rfl : k = m := by omega
     rw [show l.take k = l from List.take_of_length_le (by omega)]
     have hto : turnF L (a + b) l p = onF L (fun i => a + b - p.S i) l (offF L l p) := rfl
     have hP2S : ∀ i ∈ l, (offF L l p).S i = -1 := fun i hi => by rw [offF_S, if_pos hi]
     rw [hto]
     generalize offF L l p = P2 at *
     repeat'
      conv => whnf
      first
       |(refine splD ?_ ?_ <;> intro hc <;> first|(exfalso; omega)|skip)
     refine loopN 5 (fun j : Nat => [(0, .ptr 0 0), (8, .os 3 4 k), (41, .v (.slice (some ad) k c)), (42, .v (iv k)), (43, .v (iv j))]) (fun j => (0, .cells (.v (iv sl) :: .v (iv ro) :: .v (iv su) :: .v gs :: .v ts :: .v (.slice lo n lc) :: .os 1 2 n :: (tbS 320 (onF L (fun i => a + b - p.S i) (l.take j) P2).A ++ tbS 320 (onF L (fun i => a + b - p.S i) (l.take j) P2).B)) 93) :: (1, .own 2 n 1 (tbV n (onF L (fun i => a + b - p.S i) (l.take j) P2).S) 3) :: [(3, .own 4 k 1 (tbV k (FF k)) 3)]) (fun j => j ≤ k) (fun j => k - j) 0 (Nat.zero_le _) ⟨rfl, rfl, rfl, rfl, rfl, trivial⟩ ⟨rfl, rfl, rfl, trivial⟩ (fun j _ => ⟨rfl, ?_⟩) ?_
     · exact mB_app (mB_up (mPl ⟨sl, ro, su, gs, ts, lo, n, lc, L⟩ (onF L (fun i => a + b - p.S i) (l.take j) P2)) (by decide)) rfl
     · intro j hj
       rcases Nat.lt_or_ge j k with hjk | hjk
       · obtain ⟨i, hki⟩ : ∃ i, l[j]? = some i := ⟨_, List.getElem?_eq_getElem (by omega)⟩
         have him := List.mem_of_getElem? hki
         have hil := hll i him
         have hSi := hSl i him
         have e1 := e1 j i hki
         have hP1 := onF_take (L := L) (f := fun i => a + b - p.S i) hki P2
         have hPS : (onF L (fun i => a + b - p.S i) (l.take j) P2).S i = -1 := by
          rw [onF_S, if_neg (fun hm => by have := (mem_take_lt hnd hki j).1 hm; omega), hP2S i him]
         have hgd : l.getD j 0 = i := by rw [List.getD_eq_getElem?_getD, hki]; rfl
         have hFj : FF k j = a + b - p.S i := by
          rw [← hFF]; dsimp only; rw [if_pos hjk, hgd]
         generalize onF L (fun i => a + b - p.S i) (l.take j) P2 = P at *
         have hro : ∀ (t : Nat) (v : Value), [iv (a + b - p.S i)][t]? = some v → (tbV k (FF k))[(j : Int).toNat * 1 + t]? = some v := by
          rw [← hFj]; exact tbV_one (by omega) (FF k) hjk
         have hPb : -1 ≤ P.S i ∧ P.S i ≤ 39 := by rw [hPS]; omega
         repeat'
          conv => whnf
          first
           |refine zD ?_|refine zF ?_|refine zG ?_
           |(refine splD ?_ ?_ <;> intro hc <;> first|(exfalso; omega)|skip)
           |refine eL [iv (i : Int)] ⟨⟨rfl, fun w' hw' => e1 w' hw'⟩, ?_⟩
           |refine eL [iv (a + b - p.S i)] ⟨⟨rfl, hro⟩, ?_⟩
           |(with_reducible show CallEv _ _ 89 ..); refine callPl ⟨sl, ro, su, gs, ts, lo, n, lc, L⟩ P (putF (lnAt L i) P i (a + b - p.S i)) (hput P i (a + b - p.S i) hil (hPb) (by omega)) rfl rfl (Nat.le_of_ble_eq_true rfl) hrd ?_
         conv => whnf
         exact ⟨j + 1, by omega, by omega, Ent.weak rfl ⟨rfl, rfl, rfl, rfl, rfl, trivial⟩ ⟨by rw [hP1]; rfl, by rw [hP1]; rfl, rfl, trivial⟩ fun _ h => h⟩
       · obtain rfl : j = k := by omega
         rw [show l.take j = l from List.take_of_length_le (by omega)]
         repeat'
          conv => whnf
          first
           |(refine splD ?_ ?_ <;> intro hc <;> first|(exfalso; omega)|skip)
         conv => whnf
         exact ⟨fun β => rfl, ⟨rfl, rfl, trivial⟩, fun _ h => h, rfl⟩
end Go.Proofs.YtkbfcofifhngfaaGreat
namespace Go.Proofs.YtkbfcofifhngfaaGreat.Tx
open Go Go.RowKit
theorem slP {P : Program} (T : Env P) {dst : Option Tmp} {ty : TypeId} {pos : String} {after : Array Edge} {gd : Option (Nat × Bool)} {gs : List Nat} {σ : Sg} {K : Ef → Prop} {KF : Option KT} {t m e i o z : Nat} {x hi : Operand} {k : IntKind}
 {sz : Nat} {zr : List Value} {by_ : Nat} {ti : TI} (hx : gv σ x = some (.ptr i o)) (hl : gv σ hi = some (.v (.int k z))) (ht : T.ty t = some ⟨sz, zr, by_, .arr m e⟩) (he : T.ty e = some ti) (hz : z ≤ m) (hlt : Nat.blt i σ.nb = true)
 (hK : K ⟨.sl i o z m, [], [], gs ++ (os x ++ os hi), []⟩) : OpEvS P ⟨dst, .slice t x none (some hi) none, ty, pos, after, gd⟩ gs σ K KF := by
 refine .mk ⟨.sl i o z m, [], [], gs ++ (os x ++ os hi), []⟩ (by simp [efB, eqs, modsLt, oldB, keysB, nodupB, SV.lt]; simpa using hlt) (fun k hk => by simp [hk]) rfl (runOK_pure fun β a w hss => ?_) hK
 have e1 := gv_eval hss hx (fun k hk => by simp [hk])
 have e2 := gv_eval hss hl (fun k hk => by simp [hk])
 have hu := under_arr (T.tok t _ ht) rfl
 have hsz := (T.tok e ti he).run_sizeOf w
 have h1 : ¬ ((z : Int) < 0) := by omega
 have h2 : ¬ ((m : Int) < z) := by omega
 simp only [execOp, Instr.sliceAt, Instr.sliceBounds, Instr.sureAddr, e1, e2, SV.c, Option.map_none, Option.map_some, Sem.run_bind, Sem.run_pure, Result.andThen_ok, Go.run_underlying hu w, hsz, Nat.zero_mul, own_add, Nat.add_zero, ite_self, Nat.sub_zero]
 have hb : ∀ c, (Instr.sliceBound (.int k z) m c).run P w = .ok z w := fun c => by
  have := run_sliceBound (P := P) (w := w) k (z : Int) m c (by omega) (by omega)
  rw [Int.toNat_natCast] at this
  exact this
 rw [hb]
 simp only [Result.andThen_ok, hsz, Nat.zero_mul, Nat.add_zero, ite_self, Nat.sub_zero]
end Go.Proofs.YtkbfcofifhngfaaGreat.Tx
namespace Go.Proofs.YtkbfcofifhngfaaGreat
open Go Tx Go.RowKit
def maxF (x : Int) (l : List Int) : Int := l.foldl (fun a b => max a b) x
def minF (x : Int) (l : List Int) : Int := l.foldl (fun a b => min a b) x
theorem maxF_take {x : Int} {l : List Int} {k : Nat} {y : Int} (h : l[k]? = some y) : maxF x (l.take (k + 1)) = max (maxF x (l.take k)) y := by
 unfold maxF; rw [List.take_add_one, h]; simp
theorem minF_take {x : Int} {l : List Int} {k : Nat} {y : Int} (h : l[k]? = some y) : minF x (l.take (k + 1)) = min (minF x (l.take k)) y := by
 unfold minF; rw [List.take_add_one, h]; simp
theorem Max_ok (x0 : Int) (l : List Int) (o : Option Addr) (c : Nat) (w : World) (hrd : Rd 1 iF (.slice o (x0 :: l).length c) (x0 :: l) w) (hl : l.length ≤ 1000000) :
 Calls Tryz.prog 42 #[.slice o (x0 :: l).length c] w fun e w' => e = .returned (iv (maxF x0 l)) ∧ Below w.heap.size w w' := by
 refine calls_val env mixed Tryz.func42 has42 Tryz.ntmps42 [.slice o (x0 :: l).length c] (by simp) ?_
 obtain ⟨_, ad, rfl, _⟩ := hrd.ptr (by simp)
 have e0 := fun (w' : World) hw' => rd_ati (hrd.below (w' := w') hw') (k := 0) (b := x0) rfl
 have hlen : (x0 :: l).length = l.length + 1 := rfl
 generalize hN : (x0 :: l).length = N at *
 repeat'
  conv => whnf
  first
   |refine zG ?_
   |(refine splD ?_ ?_ <;> intro hc <;> first|(exfalso; omega)|skip)
   |refine eL [iv x0] ⟨⟨rfl, fun w' hw' => e0 w' hw'⟩, ?_⟩
 refine loopE (fun k : Nat => [(0, .v (.slice (some ad) N c)), (3, .v (iv (maxF x0 (l.take k)))), (4, .v (iv (k + 1 : Nat)))]) (fun _ => []) (fun k => k ≤ l.length) (fun k => l.length - k) 0 (Nat.zero_le _) ⟨rfl, rfl, rfl, trivial⟩ trivial (fun _ => ⟨rfl, rfl⟩) ?_
 intro k hk
 rcases Nat.lt_or_ge k l.length with hkl | hkl
 · obtain ⟨y, hy⟩ : ∃ b, l[k]? = some b := ⟨_, List.getElem?_eq_getElem hkl⟩
   have e1 := fun (w' : World) hw' => rd_ati (hrd.below (w' := w') hw') (k := k + 1) (b := y) hy
   rw [show Nat.cast (k + 1) = ((k + 1 : Nat) : Int) from rfl] at e1
   have hmx := maxF_take (x := x0) hy
   generalize maxF x0 (l.take k) = M at *
   repeat'
    conv => whnf
    first
     |refine zF ?_|refine zG ?_
     |(refine splD ?_ ?_ <;> intro hc <;> first|(exfalso; omega)|skip)
     |refine eL [iv y] ⟨⟨rfl, fun w' hw' => e1 w' hw'⟩, ?_⟩
   all_goals exact ⟨k + 1, by omega, by omega, Ent.weak rfl ⟨rfl, by rw [hmx, ← imax_eq]; rfl, rfl, trivial⟩ trivial fun _ h => h⟩
 · obtain rfl : k = l.length := by omega
   rw [show l.take l.length = l from List.take_length]
   repeat'
    conv => whnf
    first
     |(refine splD ?_ ?_ <;> intro hc <;> first|(exfalso; omega)|skip)
   all_goals exact ⟨fun β => rfl, fun w' h => h⟩
theorem Min_ok (x0 : Int) (l : List Int) (o : Option Addr) (c : Nat) (w : World) (hrd : Rd 1 iF (.slice o (x0 :: l).length c) (x0 :: l) w) (hl : l.length ≤ 1000000) :
 Calls Tryz.prog 45 #[.slice o (x0 :: l).length c] w fun e w' => e = .returned (iv (minF x0 l)) ∧ Below w.heap.size w w' := by
 refine calls_val env mixed Tryz.func45 has45 Tryz.ntmps45 [.slice o (x0 :: l).length c] (by simp) ?_
 obtain ⟨_, ad, rfl, _⟩ := hrd.ptr (by simp)
 have e0 := fun (w' : World) hw' => rd_ati (hrd.below (w' := w') hw') (k := 0) (b := x0) rfl
 have hlen : (x0 :: l).length = l.length + 1 := rfl
 generalize hN : (x0 :: l).length = N at *
 repeat'
  conv => whnf
  first
   |refine zG ?_
   |(refine splD ?_ ?_ <;> intro hc <;> first|(exfalso; omega)|skip)
   |refine eL [iv x0] ⟨⟨rfl, fun w' hw' => e0 w' hw'⟩, ?_⟩
 refine loopE (fun k : Nat => [(0, .v (.slice (some ad) N c)), (3, .v (iv (minF x0 (l.take k)))), (4, .v (iv (k + 1 : Nat)))]) (fun _ => []) (fun k => k ≤ l.length) (fun k => l.length - k) 0 (Nat.zero_le _) ⟨rfl, rfl, rfl, trivial⟩ trivial (fun _ => ⟨rfl, rfl⟩) ?_
 intro k hk
 rcases Nat.lt_or_ge k l.length with hkl | hkl
 · obtain ⟨y, hy⟩ : ∃ b, l[k]? = some b := ⟨_, List.getElem?_eq_getElem hkl⟩
   have e1 := fun (w' : World) hw' => rd_ati (hrd.below (w' := w') hw') (k := k + 1) (b := y) hy
   have hmx := minF_take (x := x0) hy
   generalize minF x0 (l.take k) = M at *
   repeat'
    conv => whnf
    first
     |refine zF ?_|refine zG ?_
     |(refine splD ?_ ?_ <;> intro hc <;> first|(exfalso; omega)|skip)
     |refine eL [iv y] ⟨⟨rfl, fun w' hw' => e1 w' hw'⟩, ?_⟩
   all_goals exact ⟨k + 1, by omega, by omega, Ent.weak rfl ⟨rfl, by rw [hmx, ← imin_eq]; rfl, rfl, trivial⟩ trivial fun _ h => h⟩
 · obtain rfl : k = l.length := by omega
   rw [show l.take l.length = l from List.take_length]
   repeat'
    conv => whnf
    first
     |(refine splD ?_ ?_ <;> intro hc <;> first|(exfalso; omega)|skip)
   all_goals exact ⟨fun β => rfl, fun w' h => h⟩
end Go.Proofs.YtkbfcofifhngfaaGreat
namespace Go.Proofs.YtkbfcofifhngfaaGreat
open Go Tx Go.RowKit
theorem Chg.sub {Z Z' : Nat → Prop} {w w' : World} (h : Chg Z w w') (hs : ∀ b, Z b → Z' b) : Chg Z' w w' := ⟨h.os, h.tape, h.output, h.size, fun b hb hn => h.same b hb fun hz => hn (hs b hz)⟩
theorem callTurn {σ : Sg} {rs : List Nat} {K : Ef → Prop} {KF : Option KT} (h : PH) (p : Pn) (a b : Int) (l : List Nat) (i j m : Nat) (hh : PhOK h) (hnd : l.Nodup) (hll : ∀ i ∈ l, i < h.L.length) (hSl : ∀ i ∈ l, p.S i = a ∨ p.S i = b) (ha : 0 ≤ a ∧ a ≤ 39) (hb : 0 ≤ b ∧ b ≤ 39) (hm : m = l.length)
 (e0 : lk σ.m 0 = some (.cells (plC h p) 93)) (e1 : lk σ.m 1 = some (.own 2 h.n 1 (tbV h.n p.S) 3)) (e3 : lk σ.m i = some (.own j m 1 ((nI l).flatMap iF) 3)) (hi : 3 ≤ i ∧ i < σ.nb) (hj : j < σ.nb) (hrd : ∀ w', σ.h w' → Rd 3 Ln.cs (.slice h.lo h.n h.lc) h.L w')
 (hK : K ⟨.v (.tuple #[]), [], (i, .own j m 1 ((nI l).flatMap iF) 3) :: plM h (turnF h.L (a + b) l p), rs, [0, 1, i]⟩) : CallEv Tryz.prog σ 87 [.ptr 0 0, .os i j m, .v (iv a), .v (iv b)] (efB σ) rs K KF := by
 subst hm
 refine callWS [0, 1, i] ((i, .own j l.length 1 ((nI l).flatMap iF) 3) :: plM h (turnF h.L (a + b) l p)) (.tuple #[]) ?_ (fun k hk => ?_) (fun β w h1 h2 hst => ?_) hK
 · have h01 : Nat.blt 0 σ.nb = true := by rw [Nat.blt_eq]; omega
   have h11 : Nat.blt 1 σ.nb = true := by rw [Nat.blt_eq]; omega
   have h21 : Nat.blt 2 σ.nb = true := by rw [Nat.blt_eq]; omega
   have hi1 : Nat.blt i σ.nb = true := by rw [Nat.blt_eq]; omega
   have hj1 : Nat.blt j σ.nb = true := by rw [Nat.blt_eq]; omega
   have b0 : Nat.beq i 0 = false := beq_ne (by omega)
   have b1 : Nat.beq i 1 = false := beq_ne (by omega)
   have b2 : Nat.beq 0 i = false := beq_ne (by omega)
   have b3 : Nat.beq 1 i = false := beq_ne (by omega)
   have b4 : Nat.beq 0 1 = false := rfl
   have b5 : Nat.beq 1 0 = false := rfl
   simp [efB, eqs, modsLt, oldB, keysB, nodupB, SV.lt, nin, e0, e1, e3, Blk.live, Blk.lt, SV.lts, h01, h11, h21, hi1, hj1, lts_append (tbS_lt _ _ _) (tbS_lt _ _ _), b0, b1, b2, b3, b4, b5]
 · simp only [List.mem_cons, List.not_mem_nil, or_false] at hk
   rcases hk with rfl | rfl | rfl
   · exact ⟨_, List.mem_cons_of_mem _ List.mem_cons_self⟩
   · exact ⟨_, List.mem_cons_of_mem _ (List.mem_cons_of_mem _ List.mem_cons_self)⟩
   · exact ⟨_, List.mem_cons_self⟩
 · have hne0 : β 0 ≠ β i := h2 0 (by simp) i (by simp) _ _ e0 e3 rfl rfl (by omega)
   have hne1 : β 1 ≠ β i := h2 1 (by simp) i (by simp) _ _ e1 e3 rfl rfl (by omega)
   have hsub : ∀ b, (∃ j bk, lk (plM h p) j = some bk ∧ β j = b) → ∃ k ∈ [0, 1, i], (∃ bk, lk σ.m k = some bk ∧ bk.live = true) ∧ β k = b := fun b ⟨j, bk, hj, hb⟩ => by
    rcases plM_lk hj with ⟨rfl, rfl⟩ | ⟨rfl, rfl⟩
    · exact ⟨0, by simp, ⟨_, e0, rfl⟩, hb⟩
    · exact ⟨1, by simp, ⟨_, e1, rfl⟩, hb⟩
   have hni : ¬ ∃ j bk, lk (plM h p) j = some bk ∧ β j = β i := fun ⟨j, bk, hj, hb⟩ => by
    rcases plM_lk hj with ⟨rfl, rfl⟩ | ⟨rfl, rfl⟩
    · exact hne0 hb
    · exact hne1 hb
   have hbi := h1 i (by simp) _ e3
   have hblt : β i < w.heap.size := Blk.ok_lt (k := .own j l.length 1 ((nI l).flatMap iF) 3) rfl hbi
   have hpl := plOK_of (h := h) (p := p) e0 e1 (fun k hk => h1 k (by simp at hk ⊢; omega)) (fun k hk k' hk' => h2 k (by simp at hk ⊢; omega) k' (by simp at hk' ⊢; omega)) fun w' hc => hrd w' (hst w' (Chg.sub hc hsub))
   have hlen : (nI l).length = l.length := by simp [nI]
   have hrow : ∀ w', w'.heap[β i]? = w.heap[β i]? → Blk.ok β w' (β i) (.own j l.length 1 ((nI l).flatMap iF) 3) := fun w' he => Blk.ok_congr (fr := []) (fun _ _ => rfl) (.own j l.length 1 ((nI l).flatMap iF) 3) (Blk.av_nil _) (fun _ => he) hbi
   have hT := turn_ok h p a b l hh hnd hll hSl ha hb ⟨β i, 0, none⟩ (β j) hpl (fun w' hc => by
    rw [hlen]
    exact Rd.of_owns (sz := 1) (f := iF) (fun _ => rfl) rfl hlen.symm (hrow w' (hc.same _ hblt hni)))
   rw [hlen] at hT
   refine hT.mono fun e w' ⟨q1, q2, q3⟩ => ⟨q1, Chg.sub q2 fun b hb => ?_, fun k bk hk => ?_⟩
   · obtain ⟨k, hk, _, hkb⟩ := hsub b hb
     exact ⟨k, hk, hkb⟩
   · rcases List.mem_cons.1 hk with hk | hk
     · cases hk; exact hrow w' (q2.same _ hblt hni)
     · simp only [plM, List.mem_cons, Prod.mk.injEq, List.not_mem_nil, or_false] at hk
       rcases hk with ⟨rfl, rfl⟩ | ⟨rfl, rfl⟩
       · exact q3 0 _ rfl
       · exact q3 1 _ rfl
theorem callChain {σ : Sg} {rs : List Nat} {K : Ef → Prop} {KF : Option KT} (nb : Nat) (h : PH) (p : Pn) (i : Nat) (a b : Int) (te : Bool) (l : List Nat) (hh : PhOK h) (hl : ChL h.L p (a + b) i (i :: l) (p.S i) te) (hln : (i :: l).length ≤ h.n) (ha : 0 ≤ a ∧ a ≤ 39) (hb : 0 ≤ b ∧ b ≤ 39) (hS : p.S i = a ∨ p.S i = b)
 (e0 : lk σ.m 0 = some (.cells (plC h p) 93)) (e1 : lk σ.m 1 = some (.own 2 h.n 1 (tbV h.n p.S) 3)) (hnb : σ.nb = nb) (h3 : 3 ≤ nb) (hrd : ∀ w', σ.h w' → Rd 3 Ln.cs (.slice h.lo h.n h.lc) h.L w')
 (hK : K ⟨.os nb (nb + 1) (i :: l).length, [nb, nb + 1], (nb, .own (nb + 1) (i :: l).length 1 ((nI (i :: l)).flatMap iF) 3) :: plM h p, rs, [0, 1]⟩) : CallEv Tryz.prog σ 88 [.ptr 0 0, .v (iv i), .v (iv a), .v (iv b), .v (.bool te)] (efB σ) rs K KF := by
 subst hnb
 refine callWO σ.nb [0, 1] (plM h p) _ 1 _ 3 rfl ?_ (fun k hk => ?_) (mB_up (mPl h p) h3) (fun β w h1 h2 hst => ?_) hK
 · have h01 : Nat.blt 0 σ.nb = true := by rw [Nat.blt_eq]; omega
   have h11 : Nat.blt 1 σ.nb = true := by rw [Nat.blt_eq]; omega
   have h02 : Nat.blt 0 (σ.nb + 2) = true := by rw [Nat.blt_eq]; omega
   have h12 : Nat.blt 1 (σ.nb + 2) = true := by rw [Nat.blt_eq]; omega
   have h22 : Nat.blt 2 (σ.nb + 2) = true := by rw [Nat.blt_eq]; omega
   have hi1 : Nat.blt σ.nb (σ.nb + 2) = true := by rw [Nat.blt_eq]; omega
   have hj1 : Nat.blt (σ.nb + 1) (σ.nb + 2) = true := by rw [Nat.blt_eq]; omega
   have hn : Nat.blt σ.nb σ.nb = false := by
    cases hb : Nat.blt σ.nb σ.nb with
    | false => rfl
    | true => rw [Nat.blt_eq] at hb; omega
   have b0 : Nat.beq σ.nb 0 = false := beq_ne (by omega)
   have b1 : Nat.beq σ.nb 1 = false := beq_ne (by omega)
   have b2 : Nat.beq σ.nb σ.nb = true := Nat.beq_refl _
   have b3 : Nat.beq (σ.nb + 1) (σ.nb + 1) = true := Nat.beq_refl _
   have b4 : Nat.beq 0 1 = false := rfl
   have b5 : Nat.beq 1 0 = false := rfl
   simp [efB, eqs, modsLt, oldB, keysB, nodupB, SV.lt, nin, e0, e1, Blk.live, Blk.lt, SV.lts, h01, h11, h02, h12, h22, hi1, hj1, hn, lts_append (tbS_lt _ _ _) (tbS_lt _ _ _), b0, b1, b2, b3, b4, b5]
 · simp only [List.mem_cons, List.not_mem_nil, or_false] at hk
   rcases hk with rfl | rfl
   · exact ⟨_, List.mem_cons_self⟩
   · exact ⟨_, List.mem_cons_of_mem _ List.mem_cons_self⟩
 · have hsub : ∀ b, (∃ j bk, lk (plM h p) j = some bk ∧ β j = b) → ∃ k ∈ [0, 1], (∃ bk, lk σ.m k = some bk ∧ bk.live = true) ∧ β k = b := fun b ⟨j, bk, hj, hb⟩ => by
    rcases plM_lk hj with ⟨rfl, rfl⟩ | ⟨rfl, rfl⟩
    · exact ⟨0, by simp, ⟨_, e0, rfl⟩, hb⟩
    · exact ⟨1, by simp, ⟨_, e1, rfl⟩, hb⟩
   refine (chain_ok h p i a b te l hh hl hln ha hb hS (plOK_of e0 e1 h1 h2 fun w' hc => hrd w' (hst w' (Chg.sub hc hsub)))).mono fun e w' ⟨bb, d, q1, q2, q3, q4, q5⟩ => ⟨bb, d, q1, q2, Chg.sub q3 fun b hb => ?_, fun k bk hk => ?_, q5⟩
   · obtain ⟨k, hk, _, hkb⟩ := hsub b hb
     exact ⟨k, hk, hkb⟩
   · simp only [plM, List.mem_cons, Prod.mk.injEq, List.not_mem_nil, or_false] at hk
     rcases hk with ⟨rfl, rfl⟩ | ⟨rfl, rfl⟩
     · exact q4 0 _ rfl
     · exact q4 1 _ rfl
theorem plC_A {h : PH} {p : Pn} {β : Nat → Nat} {k : Nat} (hk : k < 320) : (SV.cs β (plC h p))[7 + k]? = some (iv (p.A k)) := by
 rw [cs_getElem?, show (plC h p)[7 + k]? = (tbS 320 p.A ++ tbS 320 p.B)[k]? from by rw [Nat.add_comm]; rfl, List.getElem?_append_left (by rw [tbS_len]; exact hk), tbS_at, if_pos hk]; rfl
theorem plC_B {h : PH} {p : Pn} {β : Nat → Nat} {k : Nat} (hk : k < 320) : (SV.cs β (plC h p))[327 + k]? = some (iv (p.B k)) := by
 rw [cs_getElem?, show (plC h p)[327 + k]? = (tbS 320 p.A ++ tbS 320 p.B)[320 + k]? from by rw [show 327 + k = 320 + k + 7 from by omega]; rfl, List.getElem?_append_right (by rw [tbS_len]; omega), tbS_len, Nat.add_sub_cancel_left, tbS_at, if_pos hk]; rfl
def rwF (f : Nat → Int) (g z : Nat) : List Int := (List.range z).map fun s => f (g * 40 + s)
theorem rwF_len (f : Nat → Int) (g z : Nat) : (rwF f g z).length = z := by simp [rwF]
theorem rwF_at (f : Nat → Int) (g z : Nat) {s : Nat} (h : s < z) : (rwF f g z)[s]? = some (f (g * 40 + s)) := by simp [rwF, h]
theorem rowA {h : PH} {p : Pn} {β : Nat → Nat} {w : World} (hb : Blk.ok β w (β 0) (.cells (plC h p) 93)) {g z : Nat} (hg : g < 8) (hz : z ≤ 40) : Rd 1 iF (.slice (some ⟨β 0, 0 + 7 + g * 40, none⟩) (rwF p.A g z).length 40) (rwF p.A g z) w := by
 simp only [Blk.ok] at hb
 refine .inr ⟨_, _, rfl, fun k x hk j v hj => ?_⟩
 match j, hj with
 | 0, hj =>
  simp only [List.getElem?_cons_zero, Option.some.injEq] at hj
  subst hj
  have hkz : k < z := by have := (List.getElem?_eq_some_iff.1 hk).1; rw [rwF_len] at this; exact this
  rw [rwF_at _ _ _ hkz, Option.some.injEq] at hk
  subst hk
  rw [Nat.mul_one, own_add, own_add, cell_of_row w (β 0) (0 + 7 + g * 40 + k + 0) _ 93 (0, 0) hb, List.getElem?_toArray, show 0 + 7 + g * 40 + k + 0 = 7 + (g * 40 + k) from by omega, plC_A (by omega)]
theorem rowB {h : PH} {p : Pn} {β : Nat → Nat} {w : World} (hb : Blk.ok β w (β 0) (.cells (plC h p) 93)) {g z : Nat} (hg : g < 8) (hz : z ≤ 40) : Rd 1 iF (.slice (some ⟨β 0, 0 + 327 + g * 40, none⟩) (rwF p.B g z).length 40) (rwF p.B g z) w := by
 simp only [Blk.ok] at hb
 refine .inr ⟨_, _, rfl, fun k x hk j v hj => ?_⟩
 match j, hj with
 | 0, hj =>
  simp only [List.getElem?_cons_zero, Option.some.injEq] at hj
  subst hj
  have hkz : k < z := by have := (List.getElem?_eq_some_iff.1 hk).1; rw [rwF_len] at this; exact this
  rw [rwF_at _ _ _ hkz, Option.some.injEq] at hk
  subst hk
  rw [Nat.mul_one, own_add, own_add, cell_of_row w (β 0) (0 + 327 + g * 40 + k + 0) _ 93 (0, 0) hb, List.getElem?_toArray, show 0 + 327 + g * 40 + k + 0 = 327 + (g * 40 + k) from by omega, plC_B (by omega)]
theorem ix_rw {f : Nat → Int} {g z a : Nat} (ha : a < z) (h1 : f (g * 40 + a) = -1) (h2 : ∀ s, s < a → f (g * 40 + s) ≠ -1) : ixN (eqL (rwF f g z) (-1)) (rwF f g z).length = a := by
 have key : ∀ s, s < z → eqL (rwF f g z) (-1) s = decide (f (g * 40 + s) = -1) := fun s hs => by
  unfold eqL
  rw [List.getD_eq_getElem?_getD, rwF_at _ _ _ hs, Option.getD_some]
  by_cases h : f (g * 40 + s) = -1
  · rw [h]; rfl
  · rw [decide_eq_false h]; simpa using h
 refine ixN_hit (fun s hs => ?_) ?_ (by rw [rwF_len]; exact ha)
 · rw [key s (by omega)]; exact decide_eq_false (h2 s hs)
 · rw [key a ha]; exact decide_eq_true h1
theorem place_ok (h : PH) (p p' : Pn) (i z a b : Nat) (x : Ln) (hh : PhOK h) (hi : h.L[i]? = some x) (hz : h.sl = z) (hz40 : z ≤ 40) (hSi : p.S i = -1)
 (ha : a < z) (hb : b < z) (hga1 : p.A (x.g.toNat * 40 + a) = -1) (hga2 : ∀ s, s < a → p.A (x.g.toNat * 40 + s) ≠ -1) (htb1 : p.B (x.t.toNat * 40 + b) = -1) (htb2 : ∀ s, s < b → p.B (x.t.toNat * 40 + s) ≠ -1)
 (hk : (p.B (tAt x a) = -1 ∧ p' = putF x p i a) ∨ ∃ (k : Nat) (l : List Nat), p.B (tAt x a) = (k : Int) ∧ p.S k = a ∧ ChL h.L p ((a : Int) + b) k (k :: l) (p.S k) false ∧ (k :: l).Nodup ∧ (∀ j ∈ k :: l, p.S j = a ∨ p.S j = b) ∧ p' = putF x (turnF h.L ((a : Int) + b) (k :: l) p) i a) :
 PlTo 40 [.ptr 0 0, .v (iv i)] h p p' := by
 intro β w hp
 have hput := fun (p' : Pn) (s : Int) => put_to h p' i x s hh hi
 have hcT := fun (σ : Sg) (rs : List Nat) (K : Ef → Prop) (KF : Option KT) (l : List Nat) (ii jj m : Nat) => callTurn (σ := σ) (rs := rs) (K := K) (KF := KF) h p a b l ii jj m hh
 have hcC := fun (σ : Sg) (rs : List Nat) (K : Ef → Prop) (KF : Option KT) (nb k : Nat) (l : List Nat) => callChain (σ := σ) (rs := rs) (K := K) (KF := KF) nb h p k a b false l hh
 obtain ⟨hok, hinj, hst⟩ := hp
 obtain ⟨hn, hnl, hx⟩ := hh
 obtain ⟨sl, ro, su, gs, ts, lo, n, lc, L⟩ := h
 dsimp only at hn hnl hx hi hst hz hk
 subst hz
 have hin := (List.getElem?_eq_some_iff.1 hi).1
 obtain ⟨hg1, hg2, ht1, ht2⟩ := hx x (List.mem_of_getElem? hi)
 have hrd0 := hst w (Chg.refl _ _)
 rw [← hn] at hrd0
 obtain ⟨_, ad, rfl, _⟩ := hrd0.ptr (by omega)
 have c44a : ∀ (β : Nat → Nat) (w' : World), Blk.ok β w' (β 0) (.cells (plC ⟨z, ro, su, gs, ts, some ad, n, lc, L⟩ p) 93) → Calls Tryz.prog 44 #[.slice (some ⟨β 0, 0 + 7 + x.g.toNat * 40, none⟩) z 40, iv (-1)] w' fun e w2 => e = .returned (iv (a : Int)) ∧ Below w'.heap.size w' w2 := fun β w' hbk => by
  have := Index_ok (rwF p.A x.g.toNat z) _ 40 (-1) w' (rowA hbk (by omega) hz40) (by rw [rwF_len]; omega)
  rw [ix_rw ha hga1 hga2, rwF_len] at this
  exact this
 have c44b : ∀ (β : Nat → Nat) (w' : World), Blk.ok β w' (β 0) (.cells (plC ⟨z, ro, su, gs, ts, some ad, n, lc, L⟩ p) 93) → Calls Tryz.prog 44 #[.slice (some ⟨β 0, 0 + 327 + x.t.toNat * 40, none⟩) z 40, iv (-1)] w' fun e w2 => e = .returned (iv (b : Int)) ∧ Below w'.heap.size w' w2 := fun β w' hbk => by
  have := Index_ok (rwF p.B x.t.toNat z) _ 40 (-1) w' (rowB hbk (by omega) hz40) (by rw [rwF_len]; omega)
  rw [ix_rw hb htb1 htb2, rwF_len] at this
  exact this
 have hga : tAt x (a : Int) = x.t.toNat * 40 + (a : Int).toNat := rfl
 refine calls_WS env mixed Tryz.func40 has40 Tryz.ntmps40 [.ptr 0 0, .v (iv i)] (plM ⟨z, ro, su, gs, ts, some ad, n, lc, L⟩ p) (plM ⟨z, ro, su, gs, ts, some ad, n, lc, L⟩ p') 3 (.tuple #[]) (Nat.le_of_ble_eq_true rfl) rfl (mPl _ _) (mPl _ _) livePl (Hp := fun w' => Rd 3 Ln.cs (.slice (some ad) L.length lc) L w') (fun h hh => ?_) hok hinj (fun w' hc => by rw [hn]; exact hst w' hc)
 have e1 := fun (w' : World) (hw' : h w') => rd_atz (hh w' hw') hi (i : Int) rfl
 have hrd := fun (w' : World) (hw' : h w') => (by have := hh w' hw'; rw [hn] at this; exact this : Rd 3 Ln.cs (.slice (some ad) n lc) L w')
 dsimp only [plM, plC]
 rcases hk with ⟨hk1, rfl⟩ | ⟨k, l, hk1, hSk, hch, hnd, hSl, rfl⟩
 · have hP := hput p a (by omega) (by omega)
   repeat'
    conv => whnf
    first
     |refine zA ?_|refine zB ?_|refine zC ?_|refine zD ?_|refine zG ?_|refine splF ?_
     |refine eL (Ln.cs x) ⟨⟨rfl, fun w' hw' => e1 w' hw'⟩, ?_⟩
     |refine nlC rfl rfl ?_
     |(with_reducible show OpEvS _ _ _ _ _ _); refine slP env (z := z) rfl rfl rfl rfl (by omega) rfl ?_
     |((with_reducible show CallEv _ _ 44 [.sl 0 (0 + 7 + _) _ _, _] _ _ _ _); refine callM (k := 44) [0] (fun β w' hbk hbw => c44a β w' (hbk 0 (by simp) _ rfl)) ?_)
     |((with_reducible show CallEv _ _ 44 [.sl 0 (0 + 327 + _) _ _, _] _ _ _ _); refine callM (k := 44) [0] (fun β w' hbk hbw => c44b β w' (hbk 0 (by simp) _ rfl)) ?_)
     |refine drBv (k := tAt x a) (by rw [hga]; show 0 + 327 + x.t.toNat * 40 + (a : Int).toNat * 1 = _; omega) (by rw [hga]; omega) hk1 ?_
     |(with_reducible show CallEv _ _ 89 ..); refine callPl ⟨z, ro, su, gs, ts, some ad, n, lc, L⟩ p (putF x p i a) hP rfl rfl (Nat.le_of_ble_eq_true rfl) hrd ?_
   conv => whnf
   exact ⟨fun β => rfl, ⟨rfl, rfl, trivial⟩, fun _ h => h, rfl⟩
 · have hkl := hch.lt k List.mem_cons_self
   have hcl : (k :: l).length ≤ n := by
    rw [← hn]
    have h1 := List.Nodup.length_le_of_subset hnd (l₂ := List.range L.length) (fun j hj => List.mem_range.2 (hch.lt j hj))
    simpa using h1
   have hTS : (turnF L ((a : Int) + b) (k :: l) p).S i = -1 := by
    unfold turnF
    rw [onF_S, offF_S]
    have hni : i ∉ k :: l := fun hm => by have := hSl i hm; omega
    rw [if_neg hni, if_neg hni]
    exact hSi
   have hP := hput (turnF L ((a : Int) + b) (k :: l) p) a (by omega) (by omega)
   have hlen2 : (k :: l).length = (nI (k :: l)).length := by simp [nI]
   repeat'
    conv => whnf
    first
     |refine zA ?_|refine zB ?_|refine zC ?_|refine zD ?_|refine zG ?_|refine splT ?_
     |refine eL (Ln.cs x) ⟨⟨rfl, fun w' hw' => e1 w' hw'⟩, ?_⟩
     |refine nlC rfl rfl ?_
     |(with_reducible show OpEvS _ _ _ _ _ _); refine slP env (z := z) rfl rfl rfl rfl (by omega) rfl ?_
     |((with_reducible show CallEv _ _ 44 [.sl 0 (0 + 7 + _) _ _, _] _ _ _ _); refine callM (k := 44) [0] (fun β w' hbk hbw => c44a β w' (hbk 0 (by simp) _ rfl)) ?_)
     |((with_reducible show CallEv _ _ 44 [.sl 0 (0 + 327 + _) _ _, _] _ _ _ _); refine callM (k := 44) [0] (fun β w' hbk hbw => c44b β w' (hbk 0 (by simp) _ rfl)) ?_)
     |refine drBv (k := tAt x a) (by rw [hga]; show 0 + 327 + x.t.toNat * 40 + (a : Int).toNat * 1 = _; omega) (by rw [hga]; omega) hk1 ?_
     |(with_reducible show CallEv _ _ 88 ..); refine hcC _ _ _ _ 4 k l hch hcl (by omega) (by omega) (.inl hSk) rfl rfl rfl (by decide) hrd ?_
     |(with_reducible show CallEv _ _ 87 ..); refine hcT _ _ _ _ (k :: l) 4 5 _ hnd (fun j hj => hch.lt j hj) hSl (by omega) (by omega) rfl rfl rfl rfl ⟨by decide, by show (4 : Nat) < 6; decide⟩ (by show (5 : Nat) < 6; decide) hrd ?_
     |(with_reducible show CallEv _ _ 89 ..); refine callPl ⟨z, ro, su, gs, ts, some ad, n, lc, L⟩ (turnF L ((a : Int) + b) (k :: l) p) (putF x (turnF L ((a : Int) + b) (k :: l) p) i a) hP rfl rfl (Nat.le_of_ble_eq_true rfl) hrd ?_
   conv => whnf
   exact ⟨fun β => rfl, ⟨rfl, rfl, trivial⟩, fun _ h => h, rfl⟩
def cntS (S : Nat → Int) : Nat → Nat → Int
 | 0, _ => 0
 | n + 1, t => cntS S n t + if S n = t then 1 else 0
theorem cntS_bd (S : Nat → Int) : ∀ n t, 0 ≤ cntS S n t ∧ cntS S n t ≤ n
 | 0, t => by simp [cntS]
 | n + 1, t => by
  have := cntS_bd S n t
  rw [cntS]
  split <;> omega
theorem counts_ok (h : PH) (p : Pn) (z : Nat) (hh : PhOK h) (hz : h.sl = z) (hz40 : z ≤ 40) (hS : ∀ i, i < h.n → 0 ≤ p.S i ∧ p.S i < z) {β : Nat → Nat} {w : World} (hp : PlOK h p β w) :
 Calls Tryz.prog 41 (SV.cs β [.ptr 0 0]).toArray w fun e w' => ∃ bb d, e = .returned (.slice (some ⟨bb, 0, none⟩) z d) ∧ w.heap.size ≤ bb ∧ Chg (fun b => ∃ j bk, lk (plM h p) j = some bk ∧ β j = b) w w' ∧ (∀ j b, lk (plM h p) j = some b → b.ok β w' (β j)) ∧ w'.ownsRow 0 3 1 (.slice (some ⟨bb, 0, none⟩) z d) z (tbV z fun t => cntS p.S h.n t) := by
 obtain ⟨hok, hinj, hst⟩ := hp
 obtain ⟨hn, hnl, hx⟩ := hh
 obtain ⟨sl, ro, su, gs, ts, lo, n, lc, L⟩ := h
 dsimp only at hn hnl hx hst hz hS
 subst hz
 obtain ⟨S, A, B⟩ := p
 dsimp only at hS
 refine calls_WO env mixed Tryz.func41 has41 Tryz.ntmps41 [.ptr 0 0] (plM ⟨z, ro, su, gs, ts, lo, n, lc, L⟩ ⟨S, A, B⟩) (plM ⟨z, ro, su, gs, ts, lo, n, lc, L⟩ ⟨S, A, B⟩) 3 _ 1 _ 3 (Nat.le_of_ble_eq_true rfl) rfl (mPl _ _) (mPl _ _) livePl (fun j b hj => ⟨b, hj, livePl j b hj⟩) (Hp := fun w' => Rd 3 Ln.cs (.slice lo n lc) L w') (fun h hh => ?_) hok hinj hst
 dsimp only [plM, plC]
 refine VC.of env mixed ?_
 repeat'
  conv => whnf
  first
   |refine zB ?_
   |refine nlC rfl rfl ?_
   |refine mkO1 env 3 z (tbV z fun _ => 0) rfl rfl rfl (by decide) rfl (by omega) (by decide) (mk0 _) rfl ?_
 conv => whnf
 refine loopN 5 (fun k : Nat => [(0, .ptr 0 0), (3, .os 3 4 z), (15, .os 1 2 n), (16, .v (iv n)), (17, .v (iv k))]) (fun k => [(0, .cells (.v (iv z) :: .v (iv ro) :: .v (iv su) :: .v gs :: .v ts :: .v (.slice lo n lc) :: .os 1 2 n :: (tbS 320 A ++ tbS 320 B)) 93), (1, .own 2 n 1 (tbV n S) 3), (3, .own 4 z 1 (tbV z fun t => cntS S k t) 3)]) (fun k => k ≤ n) (fun k => n - k) 0 (Nat.zero_le _) ⟨rfl, rfl, rfl, rfl, rfl, trivial⟩ ⟨rfl, rfl, rfl, trivial⟩ (fun k _ => ⟨rfl, ?_⟩) ?_
 · exact mB_app (m := plM ⟨z, ro, su, gs, ts, lo, n, lc, L⟩ ⟨S, A, B⟩) (mB_up (mPl _ _) (by decide)) rfl
 · intro k hk
   rcases Nat.lt_or_ge k n with hkn | hkn
   · have hSk := hS k hkn
     obtain ⟨t, ht⟩ : ∃ t : Nat, S k = t := ⟨(S k).toNat, by omega⟩
     have htz : t < z := by omega
     have hbd := cntS_bd S k t
     have hup := tbV_setE (n := z) (o := (t : Int).toNat * 1) (p := t) (fun t => cntS S k t) (cntS S k t + 1) (by omega) htz
     have hst : tbV z (fun t => cntS S (k + 1) t) = tbV z (updF (fun t => cntS S k t) t (cntS S k t + 1)) := by
      congr 1
      funext u
      unfold updF
      rw [cntS]
      by_cases hu : u = t
      · subst hu; rw [if_pos ht, if_pos rfl]
      · rw [if_neg hu, if_neg (by omega)]; exact Int.add_zero _
     have hro : ∀ (j : Nat) (v : Value), [iv (t : Int)][j]? = some v → (tbV n S)[(k : Int).toNat * 1 + j]? = some v := by
      rw [← ht]; exact tbV_one (by omega) S hkn
     have hr2 : ∀ (j : Nat) (v : Value), [iv (cntS S k t)][j]? = some v → (tbV z fun t => cntS S k t)[(t : Int).toNat * 1 + j]? = some v := tbV_one (by omega) (fun t => cntS S k t) htz
     generalize cntS S k t = C at *
     repeat'
      conv => whnf
      first
       |refine zC ?_|refine zF ?_|refine zG ?_
       |(refine splD ?_ ?_ <;> intro hc <;> first|(exfalso; omega)|skip)
       |refine eL [iv (t : Int)] ⟨⟨rfl, hro⟩, ?_⟩
       |refine eL [iv C] ⟨⟨rfl, hr2⟩, ?_⟩
       |refine And.intro (a := (_ : Nat) ≤ (tbV _ _).length) (by rw [tbV_len]; show (t : Int).toNat * 1 + 1 ≤ z; omega) ?_
     conv => whnf
     exact ⟨k + 1, by omega, by omega, Ent.weak rfl ⟨rfl, rfl, rfl, rfl, rfl, trivial⟩ ⟨rfl, rfl, by rw [hst, hup]; rfl, trivial⟩ fun _ h => h⟩
   · obtain rfl : k = n := by omega
     repeat'
      conv => whnf
      first
       |(refine splD ?_ ?_ <;> intro hc <;> first|(exfalso; omega)|skip)
     conv => whnf
     exact ⟨3, 4, ⟨by decide, rfl, rfl⟩, ⟨rfl, rfl, trivial⟩, fun _ h => h, rfl⟩
def bfP (L : List Ln) (p : Pn) (t : Int) (i : Nat) (te : Bool) : Int := if te = true then p.A (gAt (lnAt L i) t) else p.B (tAt (lnAt L i) t)
def fndP (L : List Ln) (p : Pn) (f t : Int) (chl : Nat → Bool → List Nat) (i : Nat) (te : Bool) : Prop := p.S i = f ∧ bfP L p t i te = -1 ∧ (i :: chl i te).length % 2 = 1
theorem even_ok (h : PH) (p : Pn) (f t : Int) (chl : Nat → Bool → List Nat) (i0 : Nat) (te0 : Bool) (hh : PhOK h) (hf : 0 ≤ f ∧ f ≤ 39) (ht : 0 ≤ t ∧ t ≤ 39) (hS : ∀ i, i < h.n → 0 ≤ p.S i ∧ p.S i ≤ 39)
 (hC : ∀ i, i < h.L.length → p.S i = f → ∀ te, ChL h.L p (f + t) i (i :: chl i te) (p.S i) te ∧ (i :: chl i te).length ≤ h.n ∧ (i :: chl i te).Nodup ∧ ∀ j ∈ i :: chl i te, p.S j = f ∨ p.S j = t)
 (hi0 : i0 < h.n) (hlt : ∀ i te, i < i0 → ¬ fndP h.L p f t chl i te) (h0 : fndP h.L p f t chl i0 te0) (hte : te0 = true → ¬ fndP h.L p f t chl i0 false) :
 PlTo 43 [.ptr 0 0, .v (iv f), .v (iv t)] h p (turnF h.L (f + t) (i0 :: chl i0 te0) p) := by
 intro β w hp
 have hcT := fun (σ : Sg) (rs : List Nat) (K : Ef → Prop) (KF : Option KT) (l : List Nat) (ii jj m : Nat) (hnd : l.Nodup) (hll : ∀ i ∈ l, i < h.L.length) (hSl : ∀ i ∈ l, p.S i = f ∨ p.S i = t) => callTurn (σ := σ) (rs := rs) (K := K) (KF := KF) h p f t l ii jj m hh hnd hll hSl hf ht
 have hcC := fun (σ : Sg) (rs : List Nat) (K : Ef → Prop) (KF : Option KT) (nb k : Nat) (te : Bool) (l : List Nat) (hl : ChL h.L p (f + t) k (k :: l) (p.S k) te) (hln : (k :: l).length ≤ h.n) (hSk : p.S k = f) => callChain (σ := σ) (rs := rs) (K := K) (KF := KF) nb h p k f t te l hh hl hln hf ht (.inl hSk)
 obtain ⟨hok, hinj, hst⟩ := hp
 obtain ⟨hn, hnl, hx⟩ := hh
 obtain ⟨sl, ro, su, gs, ts, lo, n, lc, L⟩ := h
 dsimp only at hn hnl hx hst hC hi0 hlt h0 hte hS
 have hrd0 := hst w (Chg.refl _ _)
 rw [← hn] at hrd0
 obtain ⟨_, ad, rfl, _⟩ := hrd0.ptr (by omega)
 refine calls_WS env mixed Tryz.func43 has43 Tryz.ntmps43 [.ptr 0 0, .v (iv f), .v (iv t)] (plM ⟨sl, ro, su, gs, ts, some ad, n, lc, L⟩ p) (plM ⟨sl, ro, su, gs, ts, some ad, n, lc, L⟩ (turnF L (f + t) (i0 :: chl i0 te0) p)) 3 (.tuple #[]) (Nat.le_of_ble_eq_true rfl) rfl (mPl _ _) (mPl _ _) livePl (Hp := fun w' => Rd 3 Ln.cs (.slice (some ad) L.length lc) L w') (fun h hh => ?_) hok hinj (fun w' hc => by rw [hn]; exact hst w' hc)
 have e1 := fun (i : Nat) (hi : i < L.length) (w' : World) (hw' : h w') => rd_atz (hh w' hw') (lnAt_get hi) (i : Int) rfl
 have hrd := fun (w' : World) (hw' : h w') => (by have := hh w' hw'; rw [hn] at this; exact this : Rd 3 Ln.cs (.slice (some ad) n lc) L w')
 dsimp only [plM, plC]
 repeat'
  conv => whnf
  first
   |refine zB ?_
   |refine nlC rfl rfl ?_
 conv => whnf
 refine loopN 3 (fun i : Nat => [(0, .ptr 0 0), (1, .v (iv f)), (2, .v (iv t)), (16, .os 1 2 n), (17, .v (iv n)), (18, .v (iv i))]) (fun _ => [(0, .cells (.v (iv sl) :: .v (iv ro) :: .v (iv su) :: .v gs :: .v ts :: .v (.slice (some ad) n lc) :: .os 1 2 n :: (tbS 320 p.A ++ tbS 320 p.B)) 93), (1, .own 2 n 1 (tbV n p.S) 3)]) (fun i => i ≤ i0) (fun i => n - i) 0 (Nat.zero_le _) ⟨rfl, rfl, rfl, rfl, rfl, rfl, trivial⟩ ⟨rfl, rfl, trivial⟩ (fun i _ => ⟨rfl, mPl ⟨sl, ro, su, gs, ts, some ad, n, lc, L⟩ p⟩) ?_
 intro i hi
 have hin : i < n := by omega
 have hil : i < L.length := by omega
 have e1 := e1 i hil
 have hSb := hS i hin
 have hro : ∀ (j : Nat) (v : Value), [iv (p.S i)][j]? = some v → (tbV n p.S)[(i : Int).toNat * 1 + j]? = some v := tbV_one (by omega) p.S hin
 obtain ⟨hg1, hg2, ht1, ht2⟩ := hx _ (List.mem_of_getElem? (lnAt_get hil))
 by_cases hSf : p.S i = f
 · rw [hSf] at hro
   repeat'
    conv => whnf
    first
     |refine zB ?_|refine zG ?_|refine splNot ?_
     |(refine splD ?_ ?_ <;> intro hc <;> first|(exfalso; omega)|skip)
     |refine eL [iv f] ⟨⟨rfl, hro⟩, ?_⟩
   conv => whnf
   refine loopN 3 (fun j : Nat => [(0, .ptr 0 0), (1, .v (iv f)), (2, .v (iv t)), (16, .os 1 2 n), (17, .v (iv n)), (6, .v (iv i)), (26, .agg [.v (.bool false), .v (.bool true)]), (18, .v (iv i)), (27, .v (iv j))]) (fun _ => [(0, .cells (.v (iv sl) :: .v (iv ro) :: .v (iv su) :: .v gs :: .v ts :: .v (.slice (some ad) n lc) :: .os 1 2 n :: (tbS 320 p.A ++ tbS 320 p.B)) 93), (1, .own 2 n 1 (tbV n p.S) 3)]) (fun j => j ≤ 2 ∧ (1 ≤ j → ¬ fndP L p f t chl i false) ∧ (2 ≤ j → ¬ fndP L p f t chl i true)) (fun j => 2 - j) 0 ⟨by omega, fun h => by omega, fun h => by omega⟩ ⟨rfl, rfl, rfl, rfl, rfl, rfl, rfl, rfl, rfl, trivial⟩ ⟨rfl, rfl, trivial⟩ (fun i _ => ⟨rfl, mPl ⟨sl, ro, su, gs, ts, some ad, n, lc, L⟩ p⟩) ?_
   intro j ⟨hj, hj1, hj2⟩
   rcases Nat.lt_or_ge j 1 with hj0 | hj0
   · obtain rfl : j = 0 := by omega
     have hC := hC i hil hSf false
     have hbf : bfP L p t i false = p.B (tAt (lnAt L i) t) := rfl
     by_cases hbv : p.B (tAt (lnAt L i) t) = -1
     · by_cases hpar : (i :: chl i false).length % 2 = 1
       · have hfd : fndP L p f t chl i false := ⟨hSf, hbf.trans hbv, hpar⟩
         obtain rfl : i = i0 := Classical.byContradiction fun hne => hlt i false (by omega) hfd
         obtain rfl : te0 = false := by
          cases te0 with
          | false => rfl
          | true => exact absurd hfd (hte rfl)
         have hch := hC.1
         have hcl := hC.2.1
         have hnd := hC.2.2.1
         have hSl := hC.2.2.2
         have hmod : ((i :: chl i false).length % 2 : Nat) = 1 := hpar
         repeat'
          conv => whnf
          first
           |refine zA ?_|refine zB ?_|refine zC ?_|refine zD ?_|refine zG ?_|refine splT ?_
           |(refine splD ?_ ?_ <;> intro hc <;> first|(exfalso; omega)|skip)
           |refine eL (Ln.cs (lnAt L i)) ⟨⟨rfl, fun w' hw' => e1 w' hw'⟩, ?_⟩
           |refine drA (k := gAt (lnAt L i) t) (by show 0 + 7 + (lnAt L i).g.toNat * 40 + t.toNat * 1 = 7 + ((lnAt L i).g.toNat * 40 + t.toNat); omega) (by show (lnAt L i).g.toNat * 40 + t.toNat < 320; omega) ?_
           |refine drBv (k := tAt (lnAt L i) t) (by show 0 + 327 + (lnAt L i).t.toNat * 40 + t.toNat * 1 = 327 + ((lnAt L i).t.toNat * 40 + t.toNat); omega) (by show (lnAt L i).t.toNat * 40 + t.toNat < 320; omega) hbv ?_
           |refine nlC rfl rfl ?_
           |refine idxS env rfl rfl rfl rfl (And.intro (by omega) (by omega)) rfl rfl (.inr ⟨rfl, rfl⟩) rfl ?_
           |(with_reducible show CallEv _ _ 88 ..); refine hcC _ _ _ _ 4 i false (chl i false) hch hcl hSf rfl rfl rfl (by decide) hrd ?_
           |refine Exists.intro (α := Int) (((i :: chl i false).length % 2 : Nat) : Int) ⟨⟨by decide, rfl⟩, ?_⟩
           |(with_reducible show CallEv _ _ 87 ..); refine hcT _ _ _ _ (i :: chl i false) 4 5 _ hnd (fun j hj => hch.lt j hj) hSl rfl rfl rfl rfl ⟨by decide, by show (4 : Nat) < 6; decide⟩ (by show (5 : Nat) < 6; decide) hrd ?_
         conv => whnf
         exact ⟨fun β => rfl, ⟨rfl, rfl, trivial⟩, fun _ h => h, rfl⟩
       ·
        have hch := hC.1
        have hcl := hC.2.1
        have hnd := hC.2.2.1
        have hSl := hC.2.2.2
        have hmod : ((i :: chl i false).length % 2 : Nat) ≠ 1 := hpar
        repeat'
         conv => whnf
         first
          |refine zA ?_|refine zB ?_|refine zC ?_|refine zD ?_|refine zF ?_|refine zG ?_|refine splT ?_
          |(refine splD ?_ ?_ <;> intro hc <;> first|(exfalso; omega)|skip)
          |refine eL (Ln.cs (lnAt L i)) ⟨⟨rfl, fun w' hw' => e1 w' hw'⟩, ?_⟩
          |refine drA (k := gAt (lnAt L i) t) (by show 0 + 7 + (lnAt L i).g.toNat * 40 + t.toNat * 1 = 7 + ((lnAt L i).g.toNat * 40 + t.toNat); omega) (by show (lnAt L i).g.toNat * 40 + t.toNat < 320; omega) ?_
          |refine drBv (k := tAt (lnAt L i) t) (by show 0 + 327 + (lnAt L i).t.toNat * 40 + t.toNat * 1 = 327 + ((lnAt L i).t.toNat * 40 + t.toNat); omega) (by show (lnAt L i).t.toNat * 40 + t.toNat < 320; omega) hbv ?_
          |refine nlC rfl rfl ?_
          |refine idxS env rfl rfl rfl rfl (And.intro (by omega) (by omega)) rfl rfl (.inr ⟨rfl, rfl⟩) rfl ?_
          |(with_reducible show CallEv _ _ 88 ..); refine hcC _ _ _ _ 4 i false (chl i false) hch hcl hSf rfl rfl rfl (by decide) hrd ?_
          |refine Exists.intro (α := Int) (((i :: chl i false).length % 2 : Nat) : Int) ⟨⟨by decide, rfl⟩, ?_⟩
        conv => whnf
        exact ⟨1, ⟨by omega, fun _ hfd => hpar hfd.2.2, fun h => by omega⟩, by omega, Ent.weak rfl ⟨rfl, rfl, rfl, rfl, rfl, rfl, rfl, rfl, rfl, trivial⟩ ⟨rfl, rfl, trivial⟩ fun _ h => h⟩
     ·
      have hch := hC.1
      have hcl := hC.2.1
      have hnd := hC.2.2.1
      have hSl := hC.2.2.2
      obtain ⟨bv, hbv2⟩ : ∃ v, p.B (tAt (lnAt L i) t) = v := ⟨_, rfl⟩
      rw [hbv2] at hbv
      repeat'
       conv => whnf
       first
        |refine zA ?_|refine zB ?_|refine zC ?_|refine zD ?_|refine zF ?_|refine zG ?_|refine splT ?_|refine splF ?_
        |(refine splD ?_ ?_ <;> intro hc <;> first|(exfalso; omega)|skip)
        |refine eL (Ln.cs (lnAt L i)) ⟨⟨rfl, fun w' hw' => e1 w' hw'⟩, ?_⟩
        |refine drA (k := gAt (lnAt L i) t) (by show 0 + 7 + (lnAt L i).g.toNat * 40 + t.toNat * 1 = 7 + ((lnAt L i).g.toNat * 40 + t.toNat); omega) (by show (lnAt L i).g.toNat * 40 + t.toNat < 320; omega) ?_
        |refine drBv (k := tAt (lnAt L i) t) (by show 0 + 327 + (lnAt L i).t.toNat * 40 + t.toNat * 1 = 327 + ((lnAt L i).t.toNat * 40 + t.toNat); omega) (by show (lnAt L i).t.toNat * 40 + t.toNat < 320; omega) hbv2 ?_
        |refine nlC rfl rfl ?_
        |refine idxS env rfl rfl rfl rfl (And.intro (by omega) (by omega)) rfl rfl (.inr ⟨rfl, rfl⟩) rfl ?_
        |(with_reducible show CallEv _ _ 88 ..); refine hcC _ _ _ _ 4 i false (chl i false) hch hcl hSf rfl rfl rfl (by decide) hrd ?_
      conv => whnf
      exact ⟨1, ⟨by omega, fun _ hfd => hbv (by have := hfd.2.1; rw [hbf, hbv2] at this; exact this), fun h => by omega⟩, by omega, Ent.weak rfl ⟨rfl, rfl, rfl, rfl, rfl, rfl, rfl, rfl, rfl, trivial⟩ ⟨rfl, rfl, trivial⟩ fun _ h => h⟩
   · rcases Nat.lt_or_ge j 2 with hj3 | hj3
     · obtain rfl : j = 1 := by omega
       have hC := hC i hil hSf true
       have hbf : bfP L p t i true = p.A (gAt (lnAt L i) t) := rfl
       by_cases hbv : p.A (gAt (lnAt L i) t) = -1
       · by_cases hpar : (i :: chl i true).length % 2 = 1
         · have hfd : fndP L p f t chl i true := ⟨hSf, hbf.trans hbv, hpar⟩
           obtain rfl : i = i0 := Classical.byContradiction fun hne => hlt i true (by omega) hfd
           obtain rfl : te0 = true := by
            cases te0 with
            | true => rfl
            | false => exact absurd h0 (hj1 (by omega))
           have hch := hC.1
           have hcl := hC.2.1
           have hnd := hC.2.2.1
           have hSl := hC.2.2.2
           have hmod : ((i :: chl i true).length % 2 : Nat) = 1 := hpar
           repeat'
            conv => whnf
            first
             |refine zA ?_|refine zB ?_|refine zC ?_|refine zD ?_|refine zG ?_|refine splT ?_|refine splF ?_
             |(refine splD ?_ ?_ <;> intro hc <;> first|(exfalso; omega)|skip)
             |refine eL (Ln.cs (lnAt L i)) ⟨⟨rfl, fun w' hw' => e1 w' hw'⟩, ?_⟩
             |refine drAv (k := gAt (lnAt L i) t) (by show 0 + 7 + (lnAt L i).g.toNat * 40 + t.toNat * 1 = 7 + ((lnAt L i).g.toNat * 40 + t.toNat); omega) (by show (lnAt L i).g.toNat * 40 + t.toNat < 320; omega) hbv ?_
             |refine nlC rfl rfl ?_
             |refine idxS env rfl rfl rfl rfl (And.intro (by omega) (by omega)) rfl rfl (.inr ⟨rfl, rfl⟩) rfl ?_
             |(with_reducible show CallEv _ _ 88 ..); refine hcC _ _ _ _ 4 i true (chl i true) hch hcl hSf rfl rfl rfl (by decide) hrd ?_
             |refine Exists.intro (α := Int) (((i :: chl i true).length % 2 : Nat) : Int) ⟨⟨by decide, rfl⟩, ?_⟩
             |(with_reducible show CallEv _ _ 87 ..); refine hcT _ _ _ _ (i :: chl i true) 4 5 _ hnd (fun j hj => hch.lt j hj) hSl rfl rfl rfl rfl ⟨by decide, by show (4 : Nat) < 6; decide⟩ (by show (5 : Nat) < 6; decide) hrd ?_
           conv => whnf
           exact ⟨fun β => rfl, ⟨rfl, rfl, trivial⟩, fun _ h => h, rfl⟩
         ·
          have hch := hC.1
          have hcl := hC.2.1
          have hnd := hC.2.2.1
          have hSl := hC.2.2.2
          have hmod : ((i :: chl i true).length % 2 : Nat) ≠ 1 := hpar
          repeat'
           conv => whnf
           first
            |refine zA ?_|refine zB ?_|refine zC ?_|refine zD ?_|refine zF ?_|refine zG ?_|refine splT ?_|refine splF ?_
            |(refine splD ?_ ?_ <;> intro hc <;> first|(exfalso; omega)|skip)
            |refine eL (Ln.cs (lnAt L i)) ⟨⟨rfl, fun w' hw' => e1 w' hw'⟩, ?_⟩
            |refine drAv (k := gAt (lnAt L i) t) (by show 0 + 7 + (lnAt L i).g.toNat * 40 + t.toNat * 1 = 7 + ((lnAt L i).g.toNat * 40 + t.toNat); omega) (by show (lnAt L i).g.toNat * 40 + t.toNat < 320; omega) hbv ?_
            |refine nlC rfl rfl ?_
            |refine idxS env rfl rfl rfl rfl (And.intro (by omega) (by omega)) rfl rfl (.inr ⟨rfl, rfl⟩) rfl ?_
            |(with_reducible show CallEv _ _ 88 ..); refine hcC _ _ _ _ 4 i true (chl i true) hch hcl hSf rfl rfl rfl (by decide) hrd ?_
            |refine Exists.intro (α := Int) (((i :: chl i true).length % 2 : Nat) : Int) ⟨⟨by decide, rfl⟩, ?_⟩
          conv => whnf
          exact ⟨2, ⟨by omega, fun _ => hj1 (by omega), fun _ hfd => hpar hfd.2.2⟩, by omega, Ent.weak rfl ⟨rfl, rfl, rfl, rfl, rfl, rfl, rfl, rfl, rfl, trivial⟩ ⟨rfl, rfl, trivial⟩ fun _ h => h⟩
       ·
        have hch := hC.1
        have hcl := hC.2.1
        have hnd := hC.2.2.1
        have hSl := hC.2.2.2
        obtain ⟨bv, hbv2⟩ : ∃ v, p.A (gAt (lnAt L i) t) = v := ⟨_, rfl⟩
        rw [hbv2] at hbv
        repeat'
         conv => whnf
         first
          |refine zA ?_|refine zB ?_|refine zC ?_|refine zD ?_|refine zF ?_|refine zG ?_|refine splT ?_|refine splF ?_
          |(refine splD ?_ ?_ <;> intro hc <;> first|(exfalso; omega)|skip)
          |refine eL (Ln.cs (lnAt L i)) ⟨⟨rfl, fun w' hw' => e1 w' hw'⟩, ?_⟩
          |refine drAv (k := gAt (lnAt L i) t) (by show 0 + 7 + (lnAt L i).g.toNat * 40 + t.toNat * 1 = 7 + ((lnAt L i).g.toNat * 40 + t.toNat); omega) (by show (lnAt L i).g.toNat * 40 + t.toNat < 320; omega) hbv2 ?_
          |refine nlC rfl rfl ?_
          |refine idxS env rfl rfl rfl rfl (And.intro (by omega) (by omega)) rfl rfl (.inr ⟨rfl, rfl⟩) rfl ?_
          |(with_reducible show CallEv _ _ 88 ..); refine hcC _ _ _ _ 4 i true (chl i true) hch hcl hSf rfl rfl rfl (by decide) hrd ?_
        conv => whnf
        exact ⟨2, ⟨by omega, fun _ => hj1 (by omega), fun _ hfd => hbv (by have := hfd.2.1; rw [hbf, hbv2] at this; exact this)⟩, by omega, Ent.weak rfl ⟨rfl, rfl, rfl, rfl, rfl, rfl, rfl, rfl, rfl, trivial⟩ ⟨rfl, rfl, trivial⟩ fun _ h => h⟩
     · obtain rfl : j = 2 := by omega
       have hne : i ≠ i0 := fun e => by
        subst e
        cases te0 with
        | false => exact hj1 (by omega) h0
        | true => exact hj2 (by omega) h0
       repeat'
        conv => whnf
        first
         |refine zF ?_|refine splF ?_
       conv => whnf
       exact ⟨i + 1, by omega, by omega, Ent.weak rfl ⟨rfl, rfl, rfl, rfl, rfl, rfl, trivial⟩ ⟨rfl, rfl, trivial⟩ fun _ h => h⟩
 · have hne : i ≠ i0 := fun e => hSf (e ▸ h0.1)
   obtain ⟨sv, hsv⟩ : ∃ v, p.S i = v := ⟨_, rfl⟩
   rw [hsv] at hro hSf
   repeat'
    conv => whnf
    first
     |refine zF ?_|refine zG ?_|refine splNot ?_
     |(refine splD ?_ ?_ <;> intro hc <;> first|(exfalso; omega)|skip)
     |refine eL [iv sv] ⟨⟨rfl, hro⟩, ?_⟩
   conv => whnf
   exact ⟨i + 1, by omega, by omega, Ent.weak rfl ⟨rfl, rfl, rfl, rfl, rfl, rfl, trivial⟩ ⟨rfl, rfl, trivial⟩ fun _ h => h⟩
end Go.Proofs.YtkbfcofifhngfaaGreat
namespace Go.Proofs.YtkbfcofifhngfaaGreat
open Go
def sumN (f : Nat → Int) : Nat → Int
 | 0 => 0
 | n + 1 => sumN f n + f n
theorem sumN_congr {f g : Nat → Int} : ∀ {n : Nat}, (∀ i, i < n → f i = g i) → sumN f n = sumN g n
 | 0, _ => rfl
 | n + 1, h => by rw [sumN, sumN, sumN_congr fun i hi => h i (by omega), h n (by omega)]
theorem sumN_upd {f : Nat → Int} {i : Nat} {v : Int} : ∀ {n : Nat}, i < n → sumN (fun k => if k = i then v else f k) n = sumN f n - f i + v
 | n + 1, h => by
  rw [sumN, sumN]
  by_cases hi : n = i
  · subst hi
    rw [if_pos rfl, sumN_congr (g := f) fun k hk => if_neg (by omega)]; omega
  · rw [if_neg hi, sumN_upd (by omega)]; omega
theorem sumN_nn {f : Nat → Int} : ∀ {n : Nat}, (∀ i, i < n → 0 ≤ f i) → 0 ≤ sumN f n
 | 0, _ => Int.le_refl _
 | n + 1, h => by rw [sumN]; have h1 : 0 ≤ sumN f n := sumN_nn fun i hi => h i (by omega); have := h n (by omega); omega
theorem sumN_ge {f : Nat → Int} {i : Nat} : ∀ {n : Nat}, (∀ i, i < n → 0 ≤ f i) → i < n → f i ≤ sumN f n
 | n + 1, h, hi => by
  rw [sumN]
  have h1 := h n (by omega)
  by_cases hin : i = n
  · subst hin; have h2 : 0 ≤ sumN f i := sumN_nn fun k hk => h k (by omega); omega
  · have h2 : f i ≤ sumN f n := sumN_ge (fun k hk => h k (by omega)) (by omega); omega
theorem sumN_add (f g : Nat → Int) : ∀ n, sumN (fun i => f i + g i) n = sumN f n + sumN g n
 | 0 => rfl
 | n + 1 => by rw [sumN, sumN, sumN, sumN_add f g n]; omega
theorem sumN_le {f g : Nat → Int} : ∀ {n : Nat}, (∀ i, i < n → f i ≤ g i) → sumN f n ≤ sumN g n
 | 0, _ => Int.le_refl _
 | n + 1, h => by rw [sumN, sumN]; have h1 : sumN f n ≤ sumN g n := sumN_le fun i hi => h i (by omega); have := h n (by omega); omega
theorem sumN_zero : ∀ n, sumN (fun _ => 0) n = 0
 | 0 => rfl
 | n + 1 => by rw [sumN, sumN_zero n]; rfl
theorem sumN_swap (f : Nat → Nat → Int) : ∀ n m, sumN (fun i => sumN (fun j => f i j) m) n = sumN (fun j => sumN (fun i => f i j) n) m
 | 0, m => by rw [sumN, ← sumN_zero m]; exact sumN_congr fun j _ => rfl
 | n + 1, m => by rw [sumN, sumN_swap f n m, ← sumN_add]; exact sumN_congr fun j _ => rfl
structure Gs where
 seen : Nat → Bool
 load : Nat → Int
 G : Nat → Nat → Int
def teachB (D : SD) (t j : Nat) : Bool := (D.T.getD t ([], 0)).1.contains (j : Int)
def tmB (D : SD) (t : Nat) : Int := timeP D (D.T.getD t ([], 0))
def updG (G : Nat → Nat → Int) (j t : Nat) (v : Int) : Nat → Nat → Int := fun a => if a = j then fun b => if b = t then v else G j b else G a
theorem updG_at (G : Nat → Nat → Int) (j t : Nat) (v : Int) (a b : Nat) : updG G j t v a b = if a = j ∧ b = t then v else G a b := by
 unfold updG
 by_cases ha : a = j
 · subst ha
   rw [if_pos rfl]
   by_cases hb : b = t
   · subst hb; simp
   · simp [hb]
 · simp [ha]
def markG (s : Gs) (t : Nat) : Gs := ⟨fun k => if k = t then true else s.seen k, s.load, s.G⟩
def giveG (s : Gs) (j t : Nat) : Gs := ⟨s.seen, fun k => if k = t then s.load t + 1 else s.load k, updG s.G j t (s.G j t + 1)⟩
def moveG (s : Gs) (i j t : Nat) : Gs := ⟨s.seen, s.load, updG (updG s.G i t (s.G i t - 1)) j t (updG s.G i t (s.G i t - 1) j t + 1)⟩
def innF (g : Nat → Gs → Bool × Gs) (j t : Nat) : Nat → Nat → Gs → Bool × Gs
 | 0, _, s => (false, s)
 | k + 1, i, s => if 0 < s.G i t then (if (g i s).1 = true then (true, moveG (g i s).2 i j t) else innF g j t k (i + 1) (g i s).2) else innF g j t k (i + 1) s
def outF (g : Nat → Gs → Bool × Gs) (D : SD) (j : Nat) : Nat → Nat → Gs → Bool × Gs
 | 0, _, s => (false, s)
 | k + 1, t, s => if (s.seen t || !teachB D t j) = true then outF g D j k (t + 1) s
  else if s.load t < tmB D t then (true, giveG (markG s t) j t)
  else if (innF g j t D.su.toNat 0 (markG s t)).1 = true then innF g j t D.su.toNat 0 (markG s t) else outF g D j k (t + 1) (innF g j t D.su.toNat 0 (markG s t)).2
def growF (D : SD) : Nat → Nat → Gs → Bool × Gs
 | 0, _, s => (false, s)
 | f + 1, j, s => outF (growF D f) D j D.T.length 0 s
structure GOK (D : SD) (s : Gs) : Prop where
 nn : ∀ t, t < D.T.length → ∀ i, i < D.su.toNat → 0 ≤ s.G i t
 ld : ∀ t, t < D.T.length → s.load t = sumN (fun i => s.G i t) D.su.toNat
 tm : ∀ t, t < D.T.length → s.load t ≤ tmB D t
 te : ∀ t, t < D.T.length → ∀ i, i < D.su.toNat → 0 < s.G i t → teachB D t i = true
def unS (s : Gs) : Nat → Nat
 | 0 => 0
 | n + 1 => unS s n + if s.seen n = true then 0 else 1
theorem unS_le {s s' : Gs} : ∀ {n : Nat}, (∀ t, t < n → s.seen t = true → s'.seen t = true) → unS s' n ≤ unS s n
 | 0, _ => Nat.le_refl _
 | n + 1, h => by
  rw [unS, unS]
  have h1 : unS s' n ≤ unS s n := unS_le fun t ht => h t (by omega)
  cases hs : s.seen n with
  | true => rw [h n (by omega) hs]; simp; omega
  | false => split <;> simp <;> omega
theorem unS_mark {s : Gs} {t : Nat} : ∀ {n : Nat}, t < n → s.seen t = false → unS (markG s t) n + 1 = unS s n
 | n + 1, h, hs => by
  rw [unS, unS]
  by_cases ht : t = n
  · subst ht
    have h1 : (markG s t).seen t = true := by simp [markG]
    have h2 : unS (markG s t) t = unS s t := by
     have : ∀ m, m ≤ t → unS (markG s t) m = unS s m := fun m => by
      induction m with
      | zero => intro _; rfl
      | succ m ih => intro hm; rw [unS, unS, ih (by omega)]; simp [markG, show ¬ m = t from by omega]
     exact this t (Nat.le_refl _)
    rw [h1, hs, h2]; simp
  · have h1 : unS (markG s t) n + 1 = unS s n := unS_mark (by omega) hs
    have h2 : (markG s t).seen n = s.seen n := by simp [markG, show ¬ n = t from fun e => ht e.symm]
    rw [h2]; omega
structure GSp (D : SD) (j : Nat) (s : Gs) (r : Bool × Gs) : Prop where
 ok : GOK D r.2
 mono : ∀ t, s.seen t = true → r.2.seen t = true
 col : ∀ t, s.seen t = true → ∀ i, r.2.G i t = s.G i t
 row : r.1 = true → ∀ i, sumN (r.2.G i) D.T.length = sumN (s.G i) D.T.length + if i = j then 1 else 0
 fG : r.1 = false → r.2.G = s.G ∧ r.2.load = s.load
 fT : r.1 = false → ∀ t, t < D.T.length → teachB D t j = true → r.2.seen t = true
 fC : r.1 = false → ∀ t, t < D.T.length → r.2.seen t = true → s.seen t = true ∨ (tmB D t ≤ s.load t ∧ ∀ i, i < D.su.toNat → 0 < s.G i t → ∀ t', t' < D.T.length → teachB D t' i = true → r.2.seen t' = true)
theorem GOK.mark {D : SD} {s : Gs} (h : GOK D s) (t : Nat) : GOK D (markG s t) := ⟨h.nn, h.ld, h.tm, h.te⟩
theorem updG_ne (G : Nat → Nat → Int) {j t : Nat} (v : Int) {a b : Nat} (h : ¬ (a = j ∧ b = t)) : updG G j t v a b = G a b := by rw [updG_at, if_neg h]
theorem sum_row_upd (G : Nat → Nat → Int) {j t n : Nat} (v : Int) (ht : t < n) (i : Nat) : sumN (updG G j t v i) n = sumN (G i) n + if i = j then v - G j t else 0 := by
 by_cases hi : i = j
 · subst hi
   rw [if_pos rfl]
   have h1 : sumN (updG G i t v i) n = sumN (fun k => if k = t then v else G i k) n := sumN_congr fun k _ => by rw [updG_at]; simp
   rw [h1, sumN_upd ht]; omega
 · rw [if_neg hi]
   have h1 : sumN (updG G j t v i) n = sumN (G i) n := sumN_congr fun k _ => updG_ne G v fun e => hi e.1
   rw [h1]; omega
theorem sum_col_upd (G : Nat → Nat → Int) {j t n : Nat} (v : Int) (hj : j < n) (b : Nat) : sumN (fun i => updG G j t v i b) n = sumN (fun i => G i b) n + if b = t then v - G j t else 0 := by
 by_cases hb : b = t
 · subst hb
   rw [if_pos rfl]
   have h1 : sumN (fun i => updG G j b v i b) n = sumN (fun k => if k = j then v else G k b) n := sumN_congr fun k _ => by rw [updG_at]; simp
   rw [h1, sumN_upd (f := fun k => G k b) hj]; omega
 · rw [if_neg hb]
   have h1 : sumN (fun i => updG G j t v i b) n = sumN (fun i => G i b) n := sumN_congr fun k _ => updG_ne G v fun e => hb e.2
   rw [h1]; omega
structure Keeps (s c : Gs) : Prop where
 G : c.G = s.G
 l : c.load = s.load
 mono : ∀ t, s.seen t = true → c.seen t = true
theorem Keeps.refl (s : Gs) : Keeps s s := ⟨rfl, rfl, fun _ h => h⟩
theorem Keeps.mark {s c : Gs} (h : Keeps s c) (t : Nat) : Keeps s (markG c t) := ⟨h.G, h.l, fun t' ht => by show (if t' = t then true else c.seen t') = true; rw [h.mono t' ht]; split <;> rfl⟩
theorem Keeps.trans {s c d : Gs} (h : Keeps s c) (h2 : Keeps c d) : Keeps s d := ⟨h2.G.trans h.G, h2.l.trans h.l, fun t ht => h2.mono t (h.mono t ht)⟩
theorem give_sp {D : SD} {s c : Gs} {j t : Nat} (hk : Keeps s c) (h : GOK D c) (hj : j < D.su.toNat) (ht : t < D.T.length) (hte : teachB D t j = true) (hu : s.seen t = false) (hlt : c.load t < tmB D t) : GSp D j s (true, giveG (markG c t) j t) := by
 refine ⟨⟨fun t' ht' i hi => ?_, fun t' ht' => ?_, fun t' ht' => ?_, fun t' ht' i hi h0 => ?_⟩, fun t' hs => ?_, fun t' hs i => ?_, fun _ i => ?_, fun h => (by cases h), fun h => (by cases h), fun h => (by cases h)⟩
 · show 0 ≤ updG c.G j t (c.G j t + 1) i t'
   rw [updG_at]; split
   · have := h.nn t ht j hj; omega
   · exact h.nn t' ht' i hi
 · show (if t' = t then c.load t + 1 else c.load t') = sumN (fun i => updG c.G j t (c.G j t + 1) i t') D.su.toNat
   rw [sum_col_upd _ _ hj]
   by_cases ht2 : t' = t
   · subst ht2; rw [if_pos rfl, if_pos rfl, h.ld t' ht']; omega
   · rw [if_neg ht2, if_neg ht2, h.ld t' ht']; omega
 · show (if t' = t then c.load t + 1 else c.load t') ≤ tmB D t'
   split
   · rename_i e; subst e; omega
   · exact h.tm t' ht'
 · have h0 : 0 < updG c.G j t (c.G j t + 1) i t' := h0
   rw [updG_at] at h0
   split at h0
   · rename_i e; obtain ⟨rfl, rfl⟩ := e; exact hte
   · exact h.te t' ht' i hi h0
 · exact (hk.mark t).mono t' hs
 · show updG c.G j t (c.G j t + 1) i t' = _
   rw [updG_ne _ _ (fun e => by rw [e.2, hu] at hs; cases hs), hk.G]
 · show sumN (updG c.G j t (c.G j t + 1) i) D.T.length = _
   rw [sum_row_upd _ _ ht, hk.G]; split <;> omega
theorem move_sp {D : SD} {s c s1 : Gs} {i j t : Nat} (hk : Keeps s c) (h : GSp D i c (true, s1)) (hj : j < D.su.toNat) (hi : i < D.su.toNat) (ht : t < D.T.length) (hte : teachB D t j = true) (hu : s.seen t = false) (hse : c.seen t = true) (h0 : 0 < c.G i t) : GSp D j s (true, moveG s1 i j t) := by
 have hci : s1.G i t = c.G i t := h.col t hse i
 refine ⟨⟨fun t' ht' k hk => ?_, fun t' ht' => ?_, fun t' ht' => h.ok.tm t' ht', fun t' ht' k hk h0 => ?_⟩, fun t' hs => h.mono t' (hk.mono t' hs), fun t' hs k => ?_, fun _ k => ?_, fun h => (by cases h), fun h => (by cases h), fun h => (by cases h)⟩
 · show 0 ≤ updG (updG s1.G i t (s1.G i t - 1)) j t (updG s1.G i t (s1.G i t - 1) j t + 1) k t'
   rw [updG_at]; split
   · rw [updG_at]; split
     · omega
     · have : 0 ≤ s1.G j t := h.ok.nn t ht j hj
       omega
   · rw [updG_at]; split
     · omega
     · exact h.ok.nn t' ht' k hk
 · show s1.load t' = sumN (fun k => updG (updG s1.G i t (s1.G i t - 1)) j t (updG s1.G i t (s1.G i t - 1) j t + 1) k t') D.su.toNat
   rw [sum_col_upd _ _ hj, sum_col_upd _ _ hi]
   have : s1.load t' = sumN (fun k => s1.G k t') D.su.toNat := h.ok.ld t' ht'
   split <;> omega
 · have h1 : 0 < updG (updG s1.G i t (s1.G i t - 1)) j t (updG s1.G i t (s1.G i t - 1) j t + 1) k t' := h0
   rw [updG_at] at h1
   split at h1
   · rename_i e; rw [e.1, e.2]; exact hte
   · rw [updG_at] at h1
     split at h1
     · rename_i e; rw [e.1, e.2]; exact h.ok.te t ht i hi (by show 0 < s1.G i t; omega)
     · exact h.ok.te t' ht' k hk h1
 · have htt : t' ≠ t := fun e => by rw [e, hu] at hs; cases hs
   show updG (updG s1.G i t (s1.G i t - 1)) j t (updG s1.G i t (s1.G i t - 1) j t + 1) k t' = _
   rw [updG_ne _ _ fun e => htt e.2, updG_ne _ _ fun e => htt e.2, ← hk.G]
   exact h.col t' (hk.mono t' hs) k
 · show sumN (updG (updG s1.G i t (s1.G i t - 1)) j t (updG s1.G i t (s1.G i t - 1) j t + 1) k) D.T.length = _
   rw [sum_row_upd _ _ ht, sum_row_upd _ _ ht]
   have : sumN (s1.G k) D.T.length = sumN (c.G k) D.T.length + if k = i then 1 else 0 := h.row rfl k
   rw [this, ← hk.G]
   split <;> split <;> omega
def ClG (D : SD) (s c : Gs) : Prop := ∀ t, t < D.T.length → c.seen t = true → s.seen t = true ∨ (tmB D t ≤ s.load t ∧ ∀ i, i < D.su.toNat → 0 < s.G i t → ∀ t', t' < D.T.length → teachB D t' i = true → c.seen t' = true)
theorem inn_sp {D : SD} {g : Nat → Gs → Bool × Gs} {N : Nat} (hg : ∀ j s, j < D.su.toNat → GOK D s → unS s D.T.length < N → GSp D j s (g j s)) {s : Gs} {j t : Nat} (hj : j < D.su.toNat) (ht : t < D.T.length) (hte : teachB D t j = true) (hu : s.seen t = false) (hful : tmB D t ≤ s.load t) :
 ∀ k i c, i + k = D.su.toNat → Keeps s c → GOK D c → unS c D.T.length < N → c.seen t = true →
  (∀ t', t' < D.T.length → c.seen t' = true → s.seen t' = true ∨ t' = t ∨ (tmB D t' ≤ s.load t' ∧ ∀ i, i < D.su.toNat → 0 < s.G i t' → ∀ t2, t2 < D.T.length → teachB D t2 i = true → c.seen t2 = true)) →
  (∀ i', i' < i → 0 < s.G i' t → ∀ t2, t2 < D.T.length → teachB D t2 i' = true → c.seen t2 = true) →
  ((innF g j t k i c).1 = true → GSp D j s (innF g j t k i c)) ∧ ((innF g j t k i c).1 = false → Keeps c (innF g j t k i c).2 ∧ GOK D (innF g j t k i c).2 ∧ ClG D s (innF g j t k i c).2)
 | 0, i, c, hik, hk, hok, hun, hse, hcl, hdo => by
  refine ⟨fun h => (by cases h), fun _ => ⟨Keeps.refl _, hok, fun t' ht' hs => ?_⟩⟩
  rcases hcl t' ht' hs with h | h | h
  · exact .inl h
  · subst h; exact .inr ⟨hful, fun i2 hi2 => hdo i2 (by omega)⟩
  · exact .inr h
 | k + 1, i, c, hik, hk, hok, hun, hse, hcl, hdo => by
  rw [innF]
  by_cases h0 : 0 < c.G i t
  · rw [if_pos h0]
    have hi : i < D.su.toNat := by omega
    have hgs := hg i c hi hok hun
    by_cases h1 : (g i c).1 = true
    · rw [if_pos h1]
      refine ⟨fun _ => move_sp (s1 := (g i c).2) hk ?_ hj hi ht hte hu hse h0, fun h => (by cases h)⟩
      rw [← h1]; exact hgs
    · rw [if_neg h1]
      have h1 : (g i c).1 = false := by cases h : (g i c).1 <;> simp_all
      have hkc : Keeps c (g i c).2 := ⟨(hgs.fG h1).1, (hgs.fG h1).2, hgs.mono⟩
      have hsm : ∀ t', c.seen t' = true → (g i c).2.seen t' = true := hgs.mono
      have := inn_sp hg hj ht hte hu hful k (i + 1) (g i c).2 (by omega) (hk.trans hkc) hgs.ok (Nat.lt_of_le_of_lt (unS_le fun t' _ h => hsm t' h) hun) (hsm t hse) (fun t' ht' hs => ?_) (fun i' hi' hp t2 ht2 hte2 => ?_)
      · exact ⟨this.1, fun h => ⟨hkc.trans (this.2 h).1, (this.2 h).2⟩⟩
      · rcases hgs.fC h1 t' ht' hs with h | ⟨h, h2⟩
        · rcases hcl t' ht' h with h | h | ⟨h, h2⟩
          · exact .inl h
          · exact .inr (.inl h)
          · exact .inr (.inr ⟨h, fun i2 hi2 hp t2 ht2 hte2 => hsm t2 (h2 i2 hi2 hp t2 ht2 hte2)⟩)
        · rw [hk.l] at h; rw [hk.G] at h2
          exact .inr (.inr ⟨h, h2⟩)
      · by_cases he : i' = i
        · subst he; exact hgs.fT h1 t2 ht2 hte2
        · exact hsm t2 (hdo i' (by omega) hp t2 ht2 hte2)
  · rw [if_neg h0]
    refine inn_sp hg hj ht hte hu hful k (i + 1) c (by omega) hk hok hun hse hcl fun i' hi' hp t2 ht2 hte2 => ?_
    by_cases he : i' = i
    · subst he; rw [hk.G] at h0; exact absurd hp h0
    · exact hdo i' (by omega) hp t2 ht2 hte2
theorem out_sp {D : SD} {g : Nat → Gs → Bool × Gs} {N : Nat} (hg : ∀ j s, j < D.su.toNat → GOK D s → unS s D.T.length < N → GSp D j s (g j s)) {s : Gs} {j : Nat} (hj : j < D.su.toNat) :
 ∀ k t c, t + k = D.T.length → Keeps s c → GOK D c → unS c D.T.length < N + 1 → ClG D s c → (∀ t', t' < t → teachB D t' j = true → c.seen t' = true) → GSp D j s (outF g D j k t c)
 | 0, t, c, htk, hk, hok, hun, hcl, hdo => by
  exact ⟨hok, hk.mono, fun t' hs i => by rw [outF, hk.G], fun h => (by cases h), fun _ => ⟨hk.G, hk.l⟩, fun _ t' ht' => hdo t' (by omega), fun _ => hcl⟩
 | k + 1, t, c, htk, hk, hok, hun, hcl, hdo => by
  have ht : t < D.T.length := by omega
  rw [outF]
  by_cases h0 : (c.seen t || !teachB D t j) = true
  · rw [if_pos h0]
    refine out_sp hg hj k (t + 1) c (by omega) hk hok hun hcl fun t' ht' hte => ?_
    by_cases he : t' = t
    · subst he; rw [hte] at h0; simpa using h0
    · exact hdo t' (by omega) hte
  · rw [if_neg h0]
    have h0' : c.seen t = false ∧ teachB D t j = true := by cases h1 : c.seen t <;> cases h2 : teachB D t j <;> simp_all
    obtain ⟨hcu, hte⟩ := h0'
    have hu : s.seen t = false := by cases h : s.seen t with | false => rfl | true => rw [hk.mono t h] at hcu; cases hcu
    by_cases hl : c.load t < tmB D t
    · rw [if_pos hl]; exact give_sp hk hok hj ht hte hu hl
    · rw [if_neg hl]
      have hum := unS_mark ht hcu
      have hmk : (markG c t).seen t = true := by simp [markG]
      have hsm : ∀ t', c.seen t' = true → (markG c t).seen t' = true := ((Keeps.refl c).mark t).mono
      have hin := inn_sp hg hj ht hte hu (by rw [hk.l] at hl; omega) D.su.toNat 0 (markG c t) (by omega) (hk.mark t) (hok.mark t) (by omega) hmk (fun t' ht' hs => ?_) (fun i' hi' => absurd hi' (by omega))
      · by_cases h1 : (innF g j t D.su.toNat 0 (markG c t)).1 = true
        · rw [if_pos h1]; exact hin.1 h1
        · rw [if_neg h1]
          have h1 : (innF g j t D.su.toNat 0 (markG c t)).1 = false := by cases h : (innF g j t D.su.toNat 0 (markG c t)).1 <;> simp_all
          obtain ⟨i1, i2, i3⟩ := hin.2 h1
          have hm2 : ∀ t', c.seen t' = true → (innF g j t D.su.toNat 0 (markG c t)).2.seen t' = true := fun t' h => i1.mono t' (hsm t' h)
          refine out_sp hg hj k (t + 1) _ (by omega) ((hk.mark t).trans i1) i2 (Nat.lt_of_le_of_lt (unS_le fun t' _ h => hm2 t' h) hun) i3 fun t' ht' hte' => ?_
          by_cases he : t' = t
          · subst he; exact i1.mono t' hmk
          · exact hm2 t' (hdo t' (by omega) hte')
      · by_cases he : t' = t
        · exact .inr (.inl he)
        · have hs' : c.seen t' = true := by have hs2 : (if t' = t then true else c.seen t') = true := hs; rwa [if_neg he] at hs2
          rcases hcl t' ht' hs' with h | ⟨h, h2⟩
          · exact .inl h
          · exact .inr (.inr ⟨h, fun i2 hi2 hp t2 ht2 hte2 => hsm t2 (h2 i2 hi2 hp t2 ht2 hte2)⟩)
theorem grow_sp {D : SD} : ∀ f j s, j < D.su.toNat → GOK D s → unS s D.T.length < f → GSp D j s (growF D f j s)
 | 0, _, _, _, _, h => absurd h (by omega)
 | f + 1, j, s, hj, hok, hun => out_sp (fun j s => grow_sp f j s) hj D.T.length 0 s (by omega) (Keeps.refl s) hok hun (fun t ht h => .inl h) (fun t' h => absurd h (by omega))
theorem sumN_lt {f g : Nat → Int} {j : Nat} : ∀ {n : Nat}, (∀ i, i < n → f i ≤ g i) → j < n → f j < g j → sumN f n < sumN g n
 | n + 1, h, hj, hlt => by
  rw [sumN, sumN]
  by_cases hn : j = n
  · subst hn
    have h1 : sumN f j ≤ sumN g j := sumN_le fun i hi => h i (by omega)
    omega
  · have h1 : sumN f n < sumN g n := sumN_lt (fun i hi => h i (by omega)) (by omega) hlt
    have h2 := h n (by omega)
    omega
theorem sumN_head (f : Nat → Int) : ∀ n, sumN f (n + 1) = f 0 + sumN (fun i => f (i + 1)) n
 | 0 => by rw [sumN, sumN, sumN]; omega
 | n + 1 => by rw [sumN, sumN_head f n, sumN]; omega
theorem sumN_list {α : Type} (f : α → Int) (d : α) : ∀ L : List α, (L.map f).sum = sumN (fun i => f (L.getD i d)) L.length
 | [] => rfl
 | x :: L => by
  rw [List.map_cons, List.sum_cons, sumN_list f d L, List.length_cons, sumN_head]
  rfl
theorem sumN_more {f : Nat → Int} {n : Nat} : ∀ {m : Nat}, n ≤ m → (∀ i, n ≤ i → i < m → f i = 0) → sumN f m = sumN f n
 | 0, h, _ => by rw [show n = 0 from by omega]
 | m + 1, h, h0 => by
  by_cases hn : n = m + 1
  · rw [hn]
  · rw [sumN, sumN_more (by omega) fun i h1 h2 => h0 i h1 (by omega), h0 m (by omega) (by omega)]; omega
theorem bits_of (p : Nat → Bool) : ∀ k, ∃ m, m < 2 ^ k ∧ ∀ i, i < k → m.testBit i = p i
 | 0 => ⟨0, by decide, fun i h => by omega⟩
 | k + 1 => by
  obtain ⟨m, hm, hb⟩ := bits_of p k
  have h2 : 2 ^ (k + 1) = 2 ^ k + 2 ^ k := by rw [Nat.pow_succ]; omega
  cases hp : p k with
  | false =>
   refine ⟨m, by omega, fun i hi => ?_⟩
   by_cases he : i = k
   · rw [he, hp, Nat.testBit_lt_two_pow hm]
   · exact hb i (by omega)
  | true =>
   refine ⟨2 ^ k + m, by omega, fun i hi => ?_⟩
   by_cases he : i = k
   · rw [he, hp, Nat.testBit_two_pow_add_eq, Nat.testBit_lt_two_pow hm]; rfl
   · rw [Nat.testBit_two_pow_add_gt (by omega)]; exact hb i (by omega)
def needP (D : SD) (i : Nat) : Int := (D.G.map fun g => g.getD i 0).sum
theorem needP_one (D : SD) (i : Nat) : hoursP D [(i : Int)] = needP D i := by
 unfold hoursP needP
 congr 1
 apply List.map_congr_left
 intro g _
 unfold rowH
 simp
theorem rowH_mem (m : Nat) (g : List Int) : ∀ k, rowH (memL m k) g = sumN (fun i => if m.testBit i = true then g.getD i 0 else 0) k
 | 0 => rfl
 | k + 1 => by
  have ih := rowH_mem m g k
  unfold rowH at ih ⊢
  rw [memL_step, List.map_append, List.sum_append, ih, sumN]
  congr 1
  cases h : m.testBit k <;> simp
theorem hours_mem (D : SD) (m k : Nat) : hoursP D (memL m k) = sumN (fun i => if m.testBit i = true then needP D i else 0) k := by
 unfold hoursP
 rw [sumN_list _ []]
 have h1 : sumN (fun a => rowH (memL m k) (D.G.getD a [])) D.G.length = sumN (fun a => sumN (fun i => if m.testBit i = true then (D.G.getD a []).getD i 0 else 0) k) D.G.length := sumN_congr fun a _ => rowH_mem m _ k
 rw [h1, sumN_swap]
 refine sumN_congr fun i _ => ?_
 by_cases h : m.testBit i = true
 · simp only [if_pos h]
   unfold needP
   rw [sumN_list _ []]
 · simp only [if_neg h]
   exact sumN_zero _
theorem times_mem (D : SD) (l : List Int) : timesP D l = sumN (fun t => bif (D.T.getD t ([], 0)).1.any (fun j => l.contains j) then tmB D t else 0) D.T.length := by
 unfold timesP
 rw [sumN_list _ ([], 0)]
 rfl
theorem mem_memL {m k : Nat} {x : Int} : x ∈ memL m k ↔ ∃ i : Nat, i < k ∧ m.testBit i = true ∧ x = i := by
 unfold memL
 rw [List.mem_map]
 constructor
 · rintro ⟨i, hi, rfl⟩
   exact ⟨i, List.mem_range.1 (List.mem_filter.1 hi).1, (List.mem_filter.1 hi).2, rfl⟩
 · rintro ⟨i, h1, h2, rfl⟩
   exact ⟨i, List.mem_filter.2 ⟨List.mem_range.2 h1, h2⟩, rfl⟩
theorem grow_hall {D : SD} (hv : scOk D = true) {f j : Nat} {s : Gs} (hj : j < D.su.toNat) (hok : GOK D s) (hun : unS s D.T.length < f) (hno : ∀ t, s.seen t = false)
 (hrow : ∀ i, i < D.su.toNat → sumN (s.G i) D.T.length ≤ needP D i) (hlt : sumN (s.G j) D.T.length < needP D j) (hfail : (growF D f j s).1 = false) :
 ∃ m, 1 ≤ m ∧ m ≤ 2 ^ D.su.toNat - 1 ∧ unB D (memL m 6) = true := by
 have hg := grow_sp f j s hj hok hun
 obtain ⟨-, -, hsu, -, -, -, -⟩ := scOk_iff.1 hv
 generalize growF D f j s = r at hg hfail
 obtain ⟨m, hm, hb⟩ := bits_of (fun i => decide (∀ t, t < D.T.length → teachB D t i = true → r.2.seen t = true)) D.su.toNat
 have hbj : m.testBit j = true := by rw [hb j hj]; exact decide_eq_true (hg.fT hfail)
 have h6 : D.su.toNat ≤ 6 := by omega
 have hhi : ∀ i, D.su.toNat ≤ i → m.testBit i = false := fun i hi => Nat.testBit_lt_two_pow (Nat.lt_of_lt_of_le hm (Nat.pow_le_pow_right (by omega) hi))
 refine ⟨m, ?_, by omega, ?_⟩
 · have := Nat.ge_two_pow_of_testBit hbj
   have := Nat.two_pow_pos j
   omega
 unfold unB
 refine decide_eq_true ?_
 rw [times_mem, hours_mem]
 have hle : sumN (fun t => bif (D.T.getD t ([], 0)).1.any (fun j => (memL m 6).contains j) then tmB D t else 0) D.T.length ≤ sumN (fun t => sumN (fun i => if m.testBit i = true then s.G i t else 0) D.su.toNat) D.T.length := by
  refine sumN_le fun t ht => ?_
  have hnn : 0 ≤ sumN (fun i => if m.testBit i = true then s.G i t else 0) D.su.toNat := sumN_nn fun i hi => by
   by_cases h : m.testBit i = true
   · simp only [if_pos h]; exact hok.nn t ht i hi
   · simp only [if_neg h]; exact Int.le_refl _
  cases ha : (D.T.getD t ([], 0)).1.any (fun j => (memL m 6).contains j) with
  | false => exact hnn
  | true =>
   show tmB D t ≤ _
   obtain ⟨x, hx, hx2⟩ := List.any_eq_true.1 ha
   obtain ⟨i, hi, hbi, rfl⟩ := mem_memL.1 (List.contains_iff_mem.1 hx2)
   have hisu : i < D.su.toNat := by
    by_cases h : i < D.su.toNat
    · exact h
    · rw [hhi i (by omega)] at hbi; cases hbi
   have hte : teachB D t i = true := List.contains_iff_mem.2 hx
   have hall := of_decide_eq_true ((hb i hisu).symm.trans hbi)
   rcases hg.fC hfail t ht (hall t ht hte) with h | ⟨h1, h2⟩
   · rw [hno t] at h; cases h
   · have e : s.load t = sumN (fun i => if m.testBit i = true then s.G i t else 0) D.su.toNat := by
      rw [hok.ld t ht]
      refine sumN_congr fun k hk => ?_
      by_cases hp : 0 < s.G k t
      · rw [if_pos (show m.testBit k = true from by rw [hb k hk]; exact decide_eq_true (h2 k hk hp))]
      · have := hok.nn t ht k hk
        split <;> omega
     omega
 rw [sumN_swap] at hle
 have hlt2 : sumN (fun i => sumN (fun t => if m.testBit i = true then s.G i t else 0) D.T.length) D.su.toNat < sumN (fun i => if m.testBit i = true then needP D i else 0) D.su.toNat := by
  refine sumN_lt (j := j) (fun i hi => ?_) hj ?_
  · by_cases h : m.testBit i = true
    · simp only [if_pos h]; exact hrow i hi
    · simp only [if_neg h]; rw [sumN_zero]; exact Int.le_refl _
  · simp only [if_pos hbj]; exact hlt
 rw [sumN_more h6 fun i h1 _ => by rw [if_neg (by rw [hhi i h1]; decide)]]
 omega
end Go.Proofs.YtkbfcofifhngfaaGreat
namespace Go.Proofs.YtkbfcofifhngfaaGreat.Tx
open Go Go.RowKit
theorem callFW {P : Program} {σ : Sg} {k : Nat} {args : List SV} {B : Ef → Bool} {rs : List Nat} {K : Ef → Prop} {ks : KT} (v : Value) (w0 : World) (Qo Qc F : Nat → Prop) (h' : World → Prop)
 (hC : ∀ β w, σ.h w → Calls P k (SV.cs β args).toArray w fun e w' => e = .returned v ∧ Chg F w w' ∧ h' w')
 (hB : ∀ w, σ.h w → ∀ b, Qo b → b < w.heap.size ∧ w.heap[b]? = w0.heap[b]?) (hF : ∀ b, F b → Qc b) (hcell : ∀ b, Qc b → ∀ w, σ.h w → ∃ cs ty fr, w.heap[b]? = some (.cells cs ty fr))
 (hdep : ∀ w w2, h' w → Chg (fun b => ¬ (Qo b ∨ Qc b)) w w2 → h' w2)
 (hK : ks (.v v) ⟨σ.nt, σ.t, σ.m, σ.nb, h', σ.z⟩) : CallEv P σ k args B rs K (some ks) := by
 refine .st ks rfl fun X β D a w hok hs => ?_
 have hw := hs.h w (Chg.refl _ _)
 have hQD : ∀ b, Qo b ∨ Qc b → D b := fun b hb => by
  rcases hb with hb | hb
  · exact hs.mem.holds (w0 := w0) (fun w' hw' => (hB w' hw' b hb).2) (hB w hw b hb).1
  · exact hs.dof fun w' hw' => hcell b hb w' hw'
 have hFc : ∀ b, F b → ∃ cs ty fr, w.heap[b]? = some (.cells cs ty fr) := fun b hb => hcell b (hF b hb) w hw
 refine (hC β w hw).mono fun e w' ⟨he, hch, hh⟩ => ⟨.v v, ⟨σ.nt, σ.t, σ.m, σ.nb, h', σ.z⟩, β, D, he, hK, rfl, ⟨⟨hok.wf.t, hok.wf.g, hok.wf.m⟩, hok.lt⟩, rfl, ?_⟩
 have hkeep : ∀ (b : Nat) (o : Obj), w.heap[b]? = some o → Other o → w'.heap[b]? = some o := fun b o hbo hot => by
  rw [hch.same b (Array.getElem?_eq_some_iff.1 hbo).1 fun hf => ?_]
  · exact hbo
  · obtain ⟨cs, ty, fr, h1⟩ := hFc b hf
    rw [hbo, Option.some.injEq] at h1
    subst h1
    exact hot trivial
 refine ⟨?_, hs.size, hs.t, fun i b hi => ?_, hs.inj, hs.out, fun b hb' => Nat.lt_of_lt_of_le (hs.dlt b hb') hch.size, fun w2 hc => ?_, hs.amb.keep (fun _ _ _ => rfl) hkeep (fun _ _ h => h)⟩
 · obtain ⟨l, l1, l2, l3⟩ := hs.defers
   exact ⟨l, l1, l2, fun d hd => ⟨hkeep _ _ (l3 d hd).1 (fun h => h), (l3 d hd).2⟩⟩
 · refine Blk.ok_congr (fr := []) (fun _ _ => rfl) b (Blk.av_nil b) (fun hl => ?_) (hs.m i b hi)
   obtain ⟨o, ho, _⟩ := Blk.ok_cells hl (hs.m i b hi)
   exact hch.same _ (Array.getElem?_eq_some_iff.1 ho).1 fun hf => hs.out i b hi hl (hQD _ (.inr (hF _ hf)))
 · exact hdep w' w2 hh ⟨hc.os, hc.tape, hc.output, hc.size, fun b hb hn => hc.same b hb fun hD => hD (hQD b (Classical.byContradiction hn))⟩
end Go.Proofs.YtkbfcofifhngfaaGreat.Tx
namespace Go.Proofs.YtkbfcofifhngfaaGreat
open Go Tx Go.RowKit
structure GA where
 sc : Nat
 sb : Nat
 lb : Nat
 gb : Nat
 kb : Nat
 se : Nat
 sec : Nat
 lo : Nat
 loc : Nat
 y : TbG
abbrev pt (b : Nat) : Value := .pointer (some ⟨b, 0, none⟩)
abbrev GA.fn (a : GA) : Value := .func (.func 126) #[] #[pt a.sc, pt a.sb, pt a.lb, pt a.gb, pt a.kb]
def GA.rows (a : GA) : List Nat := a.y.D.map Prod.fst
def GA.W (a : GA) (b : Nat) : Prop := b = a.se ∨ b = a.lo ∨ b ∈ a.rows
def GA.Q (a : GA) (b : Nat) : Prop := a.W b ∨ b = a.sc ∨ b = a.sb ∨ b = a.lb ∨ b = a.gb ∨ b = a.kb ∨ b = a.y.o
structure GA.Ok (a : GA) (m : Nat) : Prop where
 sc : m ≤ a.sc
 sb : m ≤ a.sb
 lb : m ≤ a.lb
 gb : m ≤ a.gb
 kb : m ≤ a.kb
 se : m ≤ a.se
 lo : m ≤ a.lo
 e1 : ∀ b, a.W b → b ≠ a.sc ∧ b ≠ a.sb ∧ b ≠ a.lb ∧ b ≠ a.gb ∧ b ≠ a.kb ∧ b ≠ a.y.o
 e2 : a.se ≠ a.lo
 e3 : a.se ∉ a.rows
 e4 : a.lo ∉ a.rows
def tbB (n : Nat) (f : Nat → Bool) : List Value := (List.range n).map fun p => .bool (f p)
theorem tbB_at {n : Nat} (f : Nat → Bool) {p : Nat} (h : p < n) : (tbB n f)[p]? = some (.bool (f p)) := by simp [tbB, h]
theorem tbB_set {n : Nat} (f : Nat → Bool) {p : Nat} (v : Bool) (h : p < n) : (tbB n f).set p (.bool v) = tbB n fun k => if k = p then v else f k := by
 apply List.ext_getElem?
 intro i
 rw [List.getElem?_set]
 by_cases hi : i < n
 · rw [tbB_at _ hi, tbB_at _ hi]
   by_cases hp : p = i
   · subst hp; simp [tbB, h]
   · rw [if_neg hp, if_neg (fun e => hp e.symm)]
 · rw [List.getElem?_eq_none (by simp [tbB]; omega), List.getElem?_eq_none (by simp [tbB]; omega)]
   split <;> simp [tbB]; omega
theorem tbV_set1 {n : Nat} (f : Nat → Int) {p : Nat} (v : Int) (h : p < n) : (tbV n f).set p (iv v) = tbV n fun k => if k = p then v else f k := by
 apply List.ext_getElem?
 intro i
 rw [List.getElem?_set]
 by_cases hi : i < n
 · rw [tbV_at _ hi, tbV_at _ hi]
   by_cases hp : p = i
   · subst hp; simp [tbV, h]
   · rw [if_neg hp, if_neg (fun e => hp e.symm)]
 · rw [List.getElem?_eq_none (by simp [tbV]; omega), List.getElem?_eq_none (by simp [tbV]; omega)]
   split <;> simp [tbV]; omega
def mkR (n : Nat) (g : Nat → Int) : List Int := (List.range n).map g
def mkC (su n : Nat) (G : Nat → Nat → Int) : List (List Int) := (List.range su).map fun i => mkR n (G i)
theorem mkC_at {su n : Nat} (G : Nat → Nat → Int) {i : Nat} (h : i < su) : (mkC su n G)[i]? = some (mkR n (G i)) := by simp [mkC, h]
theorem mkR_at {n : Nat} (g : Nat → Int) {i : Nat} (h : i < n) : (mkR n g)[i]? = some (g i) := by simp [mkR, h]
theorem mkR_len (n : Nat) (g : Nat → Int) : (mkR n g).length = n := by simp [mkR]
theorem mkC_len (su n : Nat) (G : Nat → Nat → Int) : (mkC su n G).length = su := by simp [mkC]
theorem mkC_set {su n : Nat} (G : Nat → Nat → Int) {j t : Nat} (v : Int) (hj : j < su) (ht : t < n) : (mkC su n G).set j ((mkR n (G j)).set t v) = mkC su n (updG G j t v) := by
 apply List.ext_getElem?
 intro i
 rw [List.getElem?_set]
 by_cases hi : i < su
 · rw [mkC_at _ hi, mkC_at _ hi]
   by_cases hp : j = i
   · subst hp
     rw [if_pos rfl, if_pos (by rw [mkC_len]; exact hj), Option.some.injEq]
     apply List.ext_getElem?
     intro k
     rw [List.getElem?_set]
     by_cases hk : k < n
     · rw [mkR_at _ hk, mkR_at _ hk, updG_at]
       by_cases ht2 : t = k
       · subst ht2; rw [if_pos rfl, if_pos (by rw [mkR_len]; exact ht), if_pos ⟨rfl, rfl⟩]
       · rw [if_neg ht2, if_neg (fun e => ht2 e.2.symm)]
     · rw [List.getElem?_eq_none (by rw [mkR_len]; omega), List.getElem?_eq_none (by rw [mkR_len]; omega)]
       split
       · rw [if_neg (by rw [mkR_len]; omega)]
       · rfl
   · rw [if_neg hp]
     have : updG G j t v i = G i := by
      funext k; rw [updG_at, if_neg (fun e => hp e.1.symm)]
     rw [this]
 · rw [List.getElem?_eq_none (by rw [mkC_len]; omega), List.getElem?_eq_none (by rw [mkC_len]; omega)]
   split
   · rw [if_neg (by rw [mkC_len]; omega)]
   · rfl
structure MG (m n su : Nat) (S : List Value) (a : GA) (s : Gs) (w : World) : Prop where
 sc : w.heap[a.sc]? = some (.cells S.toArray 34 (0, 0))
 sb : w.heap[a.sb]? = some (.cells #[.slice (some ⟨a.se, 0, none⟩) n a.sec] 167 (0, 0))
 lb : w.heap[a.lb]? = some (.cells #[.slice (some ⟨a.lo, 0, none⟩) n a.loc] 36 (0, 0))
 gb : w.heap[a.gb]? = some (.cells #[.slice (some ⟨a.y.o, 0, none⟩) su a.y.c] 22 (0, 0))
 kb : w.heap[a.kb]? = some (.cells #[a.fn] 127 (0, 0))
 se : w.ownsRow 0 4 1 (.slice (some ⟨a.se, 0, none⟩) n a.sec) n (tbB n s.seen)
 lo : w.ownsRow 0 3 1 (.slice (some ⟨a.lo, 0, none⟩) n a.loc) n (tbV n s.load)
 gi : TbIn m n a.y (mkC su n s.G) w
def MW (w0 : World) (n su : Nat) (S : List Value) (a : GA) (s : Gs) (w : World) : Prop := Below w0.heap.size w0 w ∧ MG w0.heap.size n su S a s w
theorem own_cells {w : World} {b n c sz ty : Nat} {xs : List Value} (h : w.ownsRow 0 ty sz (.slice (some ⟨b, 0, none⟩) n c) n xs) : ∃ cs ty fr, w.heap[b]? = some (.cells cs ty fr) := by
 obtain ⟨c, hc⟩ := own_heap h
 exact ⟨_, _, _, hc⟩
theorem MG.dl {m n su : Nat} {S : List Value} {a : GA} {s : Gs} {w : World} (h : MG m n su S a s w) : a.y.D.length = su := by
 have := h.gi.l; rw [mkC_len] at this; exact this.symm
theorem MG.row {m n su : Nat} {S : List Value} {a : GA} {s : Gs} {w : World} (h : MG m n su S a s w) {b : Nat} (hb : b ∈ a.rows) : ∃ (i : Nat) (p : Nat × Nat), i < su ∧ a.y.D[i]? = some p ∧ p.1 = b := by
 obtain ⟨p, hp, rfl⟩ := List.mem_map.1 hb
 obtain ⟨i, hi⟩ := List.mem_iff_getElem?.1 hp
 refine ⟨i, p, ?_, hi, rfl⟩
 rw [← h.dl]; exact (List.getElem?_eq_some_iff.1 hi).1
theorem MG.cells {m n su : Nat} {S : List Value} {a : GA} {s : Gs} {w : World} (h : MG m n su S a s w) {b : Nat} (hb : a.Q b) : ∃ cs ty fr, w.heap[b]? = some (.cells cs ty fr) := by
 rcases hb with (rfl | rfl | hb) | rfl | rfl | rfl | rfl | rfl | rfl
 · exact own_cells h.se
 · exact own_cells h.lo
 · obtain ⟨i, p, hi, hp, rfl⟩ := h.row hb
   exact own_cells (h.gi.r i p _ hp (mkC_at s.G hi))
 · exact ⟨_, _, _, h.sc⟩
 · exact ⟨_, _, _, h.sb⟩
 · exact ⟨_, _, _, h.lb⟩
 · exact ⟨_, _, _, h.gb⟩
 · exact ⟨_, _, _, h.kb⟩
 · exact own_cells h.gi.h
theorem MG.keep {m n su : Nat} {S : List Value} {a : GA} {s : Gs} {w w2 : World} (h : MG m n su S a s w) (hs : ∀ b, a.Q b → w2.heap[b]? = w.heap[b]?) : MG m n su S a s w2 := by
 have hr : ∀ p ∈ a.y.D, a.Q p.1 := fun p hp => .inl (.inr (.inr (List.mem_map_of_mem hp)))
 refine ⟨(hs _ (by simp [GA.Q])).trans h.sc, (hs _ (by simp [GA.Q])).trans h.sb, (hs _ (by simp [GA.Q])).trans h.lb, (hs _ (by simp [GA.Q])).trans h.gb, (hs _ (by simp [GA.Q])).trans h.kb, own_keep h.se (hs _ (.inl (.inl rfl))), own_keep h.lo (hs _ (.inl (.inr (.inl rfl)))), ?_⟩
 exact ⟨h.gi.l, h.gi.n, own_keep h.gi.h (hs _ (by simp [GA.Q])), fun i p xs h1 h2 => own_keep (h.gi.r i p xs h1 h2) (hs _ (hr p (List.mem_of_getElem? h1))), h.gi.d, h.gi.a, h.gi.m⟩
theorem below_chg {w0 w w2 : World} {Q : Nat → Prop} (h : Below w0.heap.size w0 w) (hc : Chg (fun b => ¬ (b < w0.heap.size ∨ Q b)) w w2) : Below w0.heap.size w0 w2 :=
 ⟨hc.os.trans h.os, hc.tape.trans h.tape, hc.output.trans h.output, Nat.le_trans h.size hc.size, fun b hb => (hc.same b (Nat.lt_of_lt_of_le hb h.size) fun hn => hn (.inl hb)).trans (h.block b hb)⟩
theorem MW.dep {w0 : World} {n su : Nat} {S : List Value} {a : GA} {s : Gs} {w w2 : World} (h : MW w0 n su S a s w) (hc : Chg (fun b => ¬ (b < w0.heap.size ∨ a.Q b)) w w2) : MW w0 n su S a s w2 := by
 refine ⟨below_chg h.1 hc, h.2.keep fun b hb => ?_⟩
 obtain ⟨cs, ty, fr, h1⟩ := h.2.cells hb
 exact hc.same b (Array.getElem?_eq_some_iff.1 h1).1 fun hn => hn (.inr hb)
theorem own_atS {w : World} {b n c ty : Nat} {xs : List Value} (h : w.ownsRow 0 ty 1 (.slice (some ⟨b, 0, none⟩) n c) n xs) {j : Nat} (hj : j < n) : (∃ cs ty fr, w.heap[b]? = some (.cells cs ty fr) ∧ j < cs.size) ∧ w.frozen? ⟨b, j, none⟩ = false := by
 have q3 := h
 obtain ⟨e1, (⟨h1, _⟩ | ⟨g, cap, cur, h1, _, h2, h3, _, h4, h5⟩)⟩ := h
 · cases h1
 · simp only [Value.slice.injEq, Option.some.injEq, Addr.mk.injEq] at h1
   obtain ⟨⟨rfl, _⟩, _⟩ := h1
   refine ⟨⟨cur, _, _, h2, ?_⟩, World.ownsRow.frozenAt q3 j⟩
   have h3 : n ≤ _ := h3
   omega
theorem chg_set {F : Nat → Prop} {w w2 : World} {ad : Addr} {v : Value} (h : Chg F w w2) (hn : F ad.block) : Chg F w (w2.setCell ad v) := by
 have h3 : (w2.setCell ad v).heap.size = w2.heap.size := setCell_size
 exact ⟨h.os, h.tape, h.output, by rw [h3]; exact h.size, fun b hb hF => (setCell_other (fun e => hF (by rw [e]; exact hn))).trans (h.same b hb hF)⟩
theorem chg_trans {F : Nat → Prop} {w w1 w2 : World} (h : Chg F w w1) (h2 : Chg F w1 w2) : Chg F w w2 :=
 ⟨h2.os.trans h.os, h2.tape.trans h.tape, h2.output.trans h.output, Nat.le_trans h.size h2.size, fun b hb hF => (h2.same b (Nat.lt_of_lt_of_le hb h.size) hF).trans (h.same b hb hF)⟩
theorem chg_dep {F Q : Nat → Prop} {w w1 w2 : World} (h : Chg F w w1) (hc : Chg (fun b => ¬ ((b < w.heap.size ∧ ¬ F b) ∨ Q b)) w1 w2) : Chg F w w2 :=
 ⟨hc.os.trans h.os, hc.tape.trans h.tape, hc.output.trans h.output, Nat.le_trans h.size hc.size, fun b hb hF => (hc.same b (Nat.lt_of_lt_of_le hb h.size) fun hn => hn (.inl ⟨hb, hF⟩)).trans (h.same b hb hF)⟩
theorem MW.dep2 {w0 wb : World} {n su : Nat} {S : List Value} {a : GA} {s : Gs} {w w2 : World} (h : MW w0 n su S a s w) (ha : a.Ok w0.heap.size) (hle : w0.heap.size ≤ wb.heap.size) (hc : Chg (fun b => ¬ ((b < wb.heap.size ∧ ¬ a.W b) ∨ a.Q b)) w w2) : MW w0 n su S a s w2 :=
 h.dep ⟨hc.os, hc.tape, hc.output, hc.size, fun b hb hn => hc.same b hb fun hn2 => hn fun h3 => hn2 (by
  rcases h3 with h3 | h3
  · by_cases hW : a.W b
    · exact .inr (.inl hW)
    · exact .inl ⟨by omega, hW⟩
  · exact .inr h3)⟩
section
variable {w0 : World} {n su : Nat} {S : List Value} {a : GA} {s : Gs} {w : World}
theorem MW.mark (ha : a.Ok w0.heap.size) (h : MW w0 n su S a s w) {t : Nat} (ht : t < n) : MW w0 n su S a (markG s t) (w.setCell ⟨a.se, t, none⟩ (.bool true)) := by
 obtain ⟨hb, h⟩ := h
 have e := ha.e1 a.se (.inl rfl)
 refine ⟨below_set hb ha.se, ?_⟩
 have ho : ∀ b, b ≠ a.se → (w.setCell ⟨a.se, t, none⟩ (.bool true)).heap[b]? = w.heap[b]? := fun b hb => setCell_other hb
 refine ⟨(ho _ e.1.symm).trans h.sc, (ho _ e.2.1.symm).trans h.sb, (ho _ e.2.2.1.symm).trans h.lb, (ho _ e.2.2.2.1.symm).trans h.gb, (ho _ e.2.2.2.2.1.symm).trans h.kb, ?_, own_keep h.lo (ho _ ha.e2.symm), ?_⟩
 · have := (World.ownsRow.stored h.se t (.bool true)).1
   rw [tbB_set _ _ ht] at this
   exact this
 · exact ⟨h.gi.l, h.gi.n, own_keep h.gi.h (ho _ e.2.2.2.2.2.symm), fun i p xs h1 h2 => own_keep (h.gi.r i p xs h1 h2) (ho _ fun he => ha.e3 (he ▸ List.mem_map_of_mem (List.mem_of_getElem? h1))), h.gi.d, h.gi.a, h.gi.m⟩
theorem MW.load (ha : a.Ok w0.heap.size) (h : MW w0 n su S a s w) {t : Nat} (ht : t < n) (v : Int) : MW w0 n su S a ⟨s.seen, fun k => if k = t then v else s.load k, s.G⟩ (w.setCell ⟨a.lo, t, none⟩ (iv v)) := by
 obtain ⟨hb, h⟩ := h
 have e := ha.e1 a.lo (.inr (.inl rfl))
 refine ⟨below_set hb ha.lo, ?_⟩
 have ho : ∀ b, b ≠ a.lo → (w.setCell ⟨a.lo, t, none⟩ (iv v)).heap[b]? = w.heap[b]? := fun b hb => setCell_other hb
 refine ⟨(ho _ e.1.symm).trans h.sc, (ho _ e.2.1.symm).trans h.sb, (ho _ e.2.2.1.symm).trans h.lb, (ho _ e.2.2.2.1.symm).trans h.gb, (ho _ e.2.2.2.2.1.symm).trans h.kb, own_keep h.se (ho _ ha.e2), ?_, ?_⟩
 · have := (World.ownsRow.stored h.lo t (iv v)).1
   rw [tbV_set1 _ _ ht] at this
   exact this
 · exact ⟨h.gi.l, h.gi.n, own_keep h.gi.h (ho _ e.2.2.2.2.2.symm), fun i p xs h1 h2 => own_keep (h.gi.r i p xs h1 h2) (ho _ fun he => ha.e4 (he ▸ List.mem_map_of_mem (List.mem_of_getElem? h1))), h.gi.d, h.gi.a, h.gi.m⟩
theorem MW.give (ha : a.Ok w0.heap.size) (h : MW w0 n su S a s w) {j t : Nat} (hj : j < su) (ht : t < n) {p : Nat × Nat} (hp : a.y.D[j]? = some p) (v : Int) : MW w0 n su S a ⟨s.seen, s.load, updG s.G j t v⟩ (w.setCell ⟨p.1, t, none⟩ (iv v)) := by
 obtain ⟨hb, h⟩ := h
 have hr : p.1 ∈ a.rows := List.mem_map_of_mem (List.mem_of_getElem? hp)
 have e := ha.e1 p.1 (.inr (.inr hr))
 have ho : ∀ b, b ≠ p.1 → (w.setCell ⟨p.1, t, none⟩ (iv v)).heap[b]? = w.heap[b]? := fun b hb => setCell_other hb
 refine ⟨below_set hb (h.gi.a p (List.mem_of_getElem? hp)).1, (ho _ e.1.symm).trans h.sc, (ho _ e.2.1.symm).trans h.sb, (ho _ e.2.2.1.symm).trans h.lb, (ho _ e.2.2.2.1.symm).trans h.gb, (ho _ e.2.2.2.2.1.symm).trans h.kb, own_keep h.se (ho _ fun he => ha.e3 (he ▸ hr)), own_keep h.lo (ho _ fun he => ha.e4 (he ▸ hr)), ?_⟩
 rw [← mkC_set s.G v hj ht]
 exact h.gi.set hp (mkC_at s.G hj) ht
end
end Go.Proofs.YtkbfcofifhngfaaGreat
namespace Go.Proofs.YtkbfcofifhngfaaGreat.Tx
open Go Go.RowKit
theorem calls_h {P : Program} (T : Env P) (hm : P.follows .mixedOrders = true) {k : Nat} {fn : Func} {c : Code} (hfn : P.funcs[k]? = some fn) (hb : fn.body = some c) {nt : Nat} (hnt : fn.ntmps = nt) (args : List Value)
 (hlen : args.length ≤ nt) {w : World} {v : Value} (h0 : World → Prop) {Q : World → Prop} (hst : ∀ w', Chg (fun b => ¬ b < w.heap.size) w w' → h0 w')
 (hvc : VC P c ⟨nt, slotsOf 0 (args.map .v), [], 0, h0, z0⟩ (endΦ T fn fun s σ => (∀ β, s.c β = v) ∧ ∀ w', σ.h w' → Q w')) :
 Calls P k args.toArray w fun e w' => e = .returned v ∧ Q w' := by
 have hm0 : Mem ⟨nt, slotsOf 0 (args.map .v), [], 0, h0, z0⟩ (fun _ => 0) (fun b => b < w.heap.size) w :=
  ⟨fun i b h => (by simp [lk] at h), fun i j bi bj h => (by simp [lk] at h), fun i b h => (by simp [lk] at h), fun b h => h, hst⟩
 have h1 := calls_VC T hm hfn hb hnt (args := args.map .v) (m0 := []) (nb0 := 0) (h := h0) (K := fun s σ => (∀ β, s.c β = v) ∧ ∀ w', σ.h w' → Q w') (by simpa using hlen) (lts_v _ _) (fun i b h => by simp [lk] at h) (fun k s h => by simp [z0, lk] at h) hvc cx0 (amb0 _ _ _) hm0
 rw [cs_v] at h1
 exact h1.mono fun e w' ⟨s, σ', β', D', he, hv, _, _, hmem, _⟩ => ⟨by rw [he, hv.1 β'], hv.2 w' (hmem.h w' (Chg.refl _ _))⟩
end Go.Proofs.YtkbfcofifhngfaaGreat.Tx
namespace Go.Proofs.YtkbfcofifhngfaaGreat
open Go Tx Go.RowKit
theorem box_at {w : World} {b ty : Nat} {cs : List Value} (h : w.heap[b]? = some (.cells cs.toArray ty (0, 0))) (o : Nat) (vs : List Value) (hv : ∀ (q : Nat) (z : Value), vs[q]? = some z → cs[o + q]? = some z) :
 ∀ (q : Nat) (z : Value), vs[q]? = some z → w.cell? (((⟨b, 0, none⟩ : Addr).add o).add q) = some z := fun q z hq => by
 rw [own_add, own_add, Nat.zero_add]
 have := hv q z hq
 simp only [World.cell?, h]
 simpa using this
theorem box_at0 {w : World} {b ty : Nat} {cs : List Value} (h : w.heap[b]? = some (.cells cs.toArray ty (0, 0))) (vs : List Value) (hv : ∀ (q : Nat) (z : Value), vs[q]? = some z → cs[q]? = some z) :
 ∀ (q : Nat) (z : Value), vs[q]? = some z → w.cell? ((⟨b, 0, none⟩ : Addr).add q) = some z := fun q z hq => by
 rw [own_add, Nat.zero_add]
 have := hv q z hq
 simp only [World.cell?, h]
 simpa using this
theorem own_at1 {w : World} {b n c ty : Nat} {xs : List Value} (h : w.ownsRow 0 ty 1 (.slice (some ⟨b, 0, none⟩) n c) n xs) (t : Nat) {v : Value} (hv : xs[t]? = some v) :
 ∀ q z, [v][q]? = some z → w.cell? (((⟨b, 0, none⟩ : Addr).add ((t : Int).toNat * 1)).add q) = some z := fun q z hq => by
 match q, hq with
 | 0, hq =>
  have hq : some v = some z := hq
  cases hq
  have := h.cells (g := b) rfl t v hv
  rw [own_add, Nat.zero_add] at this
  rw [own_add, own_add, Int.toNat_natCast, Nat.mul_one, Nat.zero_add]
  exact this
theorem mkR_fm (n : Nat) (g : Nat → Int) : (mkR n g).flatMap iF = tbV n g := by
 unfold mkR tbV
 rw [List.flatMap_map]
 simp only [iF]
 induction List.range n with
 | nil => rfl
 | cons a l ih => rw [List.flatMap_cons, ih]; rfl
theorem Time_ok (sl ro su : Int) (go to : Option Addr) (gn gc tn tc : Nat) (o : Option Addr) (n c : Nat) (hh : Int) (w : World) :
 Calls Tryz.prog 128 #[.agg #[iv sl, iv ro, iv su, .slice go gn gc, .slice to tn tc], .agg #[.slice o n c, iv hh]] w fun e w' => e = .returned (iv (imin hh sl)) ∧ Below w.heap.size w w' := by
 refine calls_val env mixed Tryz.func128 has128 Tryz.ntmps128 [.agg #[iv sl, iv ro, iv su, .slice go gn gc, .slice to tn tc], .agg #[.slice o n c, iv hh]] (by simp) ?_
 repeat'
  conv => whnf
  first
   |refine zB ?_
 all_goals first | exact ⟨fun β => rfl, fun w' h => h⟩
theorem GOK.bd {D : SD} {s : Gs} (h : GOK D s) {t i : Nat} (ht : t < D.T.length) (hi : i < D.su.toNat) : 0 ≤ s.G i t ∧ s.G i t ≤ tmB D t := by
 have h1 := h.ld t ht
 have h2 := h.tm t ht
 have h3 : s.G i t ≤ sumN (fun i => s.G i t) D.su.toNat := sumN_ge (f := fun i => s.G i t) (fun k hk => h.nn t ht k hk) hi
 exact ⟨h.nn t ht i hi, by omega⟩
theorem grow_ok (s : Sc) (su : Nat) (hsu : s.su = su) (w0 : World) (a : GA) (ha : a.Ok w0.heap.size) (hs : ScIn s w0) (hB : ScB s) (hv : scOk s.d = true) : ∀ (f : Nat) (st : Gs) (j : Nat) (w : World),
 j < su → GOK s.d st → unS st s.T.length < f → MW w0 s.T.length su [iv s.sl, iv s.ro, iv s.su, .slice s.go s.G.length s.gc, .slice s.to s.T.length s.tc] a st w →
 Calls Tryz.prog 126 #[iv j, pt a.sc, pt a.sb, pt a.lb, pt a.gb, pt a.kb] w fun e w' => e = .returned (.bool (growF s.d f j st).1) ∧ MW w0 s.T.length su [iv s.sl, iv s.ro, iv s.su, .slice s.go s.G.length s.gc, .slice s.to s.T.length s.tc] a (growF s.d f j st).2 w' ∧ Chg a.W w w' := by
 obtain ⟨sl, ro, su', go, gc, G, to, tc, T⟩ := s
 dsimp only at hsu
 subst hsu
 intro f
 induction f with
 | zero => intro st j w _ _ h; exact absurd h (by omega)
 | succ f ih =>
  intro st j w hj hok hun hw
  dsimp only [Sc.d] at hv hok ih hw ⊢
  have htea := fun (t : List Int × Int) (ht : t ∈ (⟨sl, ro, (su : Int), G.map Rw.xs, T.map Tc.d⟩ : SD).T) => tea_at hv ht
  obtain ⟨hv1, hv2, hv3, hv4, hv5, hv6, hv7⟩ := scOk_iff.1 hv
  have hsp := grow_sp (D := (⟨sl, ro, (su : Int), G.map Rw.xs, T.map Tc.d⟩ : SD)) f
  have hDl : (⟨sl, ro, (su : Int), G.map Rw.xs, T.map Tc.d⟩ : SD).T.length = T.length := by simp
  have hDsu : (⟨sl, ro, (su : Int), G.map Rw.xs, T.map Tc.d⟩ : SD).su.toNat = su := by simp
  rw [hDl, hDsu] at hsp
  have hb4 := hB.h
  obtain ⟨hg, hr, ht, hh⟩ := hs
  dsimp only at hv1 hv5 hv3 ht hh hb4
  rw [List.length_map] at hv5
  dsimp only at hun
  generalize hSS : [iv sl, iv ro, iv su, .slice go G.length gc, .slice to T.length tc] = SS at *
  refine calls_h env mixed Tryz.func126 has126 Tryz.ntmps126 [iv j, pt a.sc, pt a.sb, pt a.lb, pt a.gb, pt a.kb] (by simp) (fun w' => MW w0 T.length su SS a (st) w' ∧ Chg a.W w w') (fun w' hc => ⟨hw.dep ⟨hc.os, hc.tape, hc.output, hc.size, fun b hb hn => hc.same b hb fun h => absurd hb h⟩, ⟨hc.os, hc.tape, hc.output, hc.size, fun b hb hn => hc.same b hb fun h => h hb⟩⟩) ?_
  have hmi := imin_eq
  have hsp1 : ∀ (b q : Nat), ((⟨b, 0, none⟩ : Addr).add q).spot = none := fun b q => by rw [own_add]
  have had : ∀ (b : Nat) (t : Nat), (⟨b, 0, none⟩ : Addr).add ((t : Int).toNat * 1) = ⟨b, t, none⟩ := fun b t => by rw [own_add, Int.toNat_natCast, Nat.mul_one, Nat.zero_add]
  have eT : ∀ (c : Gs) w', (MW w0 T.length su SS a (c) w' ∧ Chg a.W w w') → ∀ q z, [Value.slice to T.length tc][q]? = some z → w'.cell? (((⟨a.sc, 0, none⟩ : Addr).add 4).add q) = some z := fun c w' hw' => box_at hw'.1.2.sc 4 _ (fun q z hq => by subst hSS; match q, hq with | 0, hq => exact hq)
  have eS : ∀ (c : Gs) w', (MW w0 T.length su SS a (c) w' ∧ Chg a.W w w') → ∀ q z, SS[q]? = some z → w'.cell? ((⟨a.sc, 0, none⟩ : Addr).add q) = some z := fun c w' hw' => box_at0 hw'.1.2.sc _ (fun q z hq => hq)
  have eSB : ∀ (c : Gs) w', (MW w0 T.length su SS a (c) w' ∧ Chg a.W w w') → ∀ q z, [Value.slice (some ⟨a.se, 0, none⟩) T.length a.sec][q]? = some z → w'.cell? ((⟨a.sb, 0, none⟩ : Addr).add q) = some z := fun c w' hw' => box_at0 hw'.1.2.sb _ (fun q z hq => hq)
  have eLB : ∀ (c : Gs) w', (MW w0 T.length su SS a (c) w' ∧ Chg a.W w w') → ∀ q z, [Value.slice (some ⟨a.lo, 0, none⟩) T.length a.loc][q]? = some z → w'.cell? ((⟨a.lb, 0, none⟩ : Addr).add q) = some z := fun c w' hw' => box_at0 hw'.1.2.lb _ (fun q z hq => hq)
  have eGB : ∀ (c : Gs) w', (MW w0 T.length su SS a (c) w' ∧ Chg a.W w w') → ∀ q z, [Value.slice (some ⟨a.y.o, 0, none⟩) su a.y.c][q]? = some z → w'.cell? ((⟨a.gb, 0, none⟩ : Addr).add q) = some z := fun c w' hw' => box_at0 hw'.1.2.gb _ (fun q z hq => hq)
  have eKB : ∀ (c : Gs) w', (MW w0 T.length su SS a (c) w' ∧ Chg a.W w w') → ∀ q z, [a.fn][q]? = some z → w'.cell? ((⟨a.kb, 0, none⟩ : Addr).add q) = some z := fun c w' hw' => box_at0 hw'.1.2.kb _ (fun q z hq => hq)
  have eSE : ∀ (c : Gs) (t : Nat), t < T.length → ∀ w', (MW w0 T.length su SS a (c) w' ∧ Chg a.W w w') → ∀ q z, [Value.bool (c.seen t)][q]? = some z → w'.cell? (((⟨a.se, 0, none⟩ : Addr).add ((t : Int).toNat * 1)).add q) = some z := fun c t htl w' hw' => own_at1 hw'.1.2.se t (tbB_at _ htl)
  have eLO : ∀ (c : Gs) (t : Nat), t < T.length → ∀ w', (MW w0 T.length su SS a (c) w' ∧ Chg a.W w w') → ∀ q z, [iv (c.load t)][q]? = some z → w'.cell? (((⟨a.lo, 0, none⟩ : Addr).add ((t : Int).toNat * 1)).add q) = some z := fun c t htl w' hw' => own_at1 hw'.1.2.lo t (tbV_at _ htl)
  have eGR : ∀ (c : Gs) (i : Nat) (p : Nat × Nat), a.y.D[i]? = some p → ∀ w', (MW w0 T.length su SS a (c) w' ∧ Chg a.W w w') → ∀ q z, [Value.slice (some ⟨p.1, 0, none⟩) T.length p.2][q]? = some z → w'.cell? (((⟨a.y.o, 0, none⟩ : Addr).add ((i : Int).toNat * 1)).add q) = some z := fun c i p hp w' hw' => own_at1 hw'.1.2.gi.h i (by rw [List.getElem?_map, hp]; rfl)
  have eGI : ∀ (c : Gs) (i t : Nat) (p : Nat × Nat), a.y.D[i]? = some p → i < su → t < T.length → ∀ w', (MW w0 T.length su SS a (c) w' ∧ Chg a.W w w') → ∀ q z, [iv (c.G i t)][q]? = some z → w'.cell? (((⟨p.1, 0, none⟩ : Addr).add ((t : Int).toNat * 1)).add q) = some z := fun c i t p hp hi htl w' hw' => own_at1 (hw'.1.2.gi.r i p _ hp (mkC_at c.G hi)) t (by rw [mkR_fm, tbV_at _ htl])
  have sSE : ∀ (c : Gs) (t : Nat), t < T.length → ∀ w', (MW w0 T.length su SS a (c) w' ∧ Chg a.W w w') → MW w0 T.length su SS a (markG c t) (w'.setCell ((⟨a.se, 0, none⟩ : Addr).add ((t : Int).toNat * 1)) (.bool true)) ∧ Chg a.W w (w'.setCell ((⟨a.se, 0, none⟩ : Addr).add ((t : Int).toNat * 1)) (.bool true)) := fun c t htl w' hw' => by rw [had]; exact ⟨hw'.1.mark ha htl, chg_set hw'.2 (.inl rfl)⟩
  have sLO : ∀ (c : Gs) (t : Nat) (v : Int), t < T.length → ∀ w', (MW w0 T.length su SS a (c) w' ∧ Chg a.W w w') → MW w0 T.length su SS a ⟨c.seen, fun k => if k = t then v else c.load k, c.G⟩ (w'.setCell ((⟨a.lo, 0, none⟩ : Addr).add ((t : Int).toNat * 1)) (iv v)) ∧ Chg a.W w (w'.setCell ((⟨a.lo, 0, none⟩ : Addr).add ((t : Int).toNat * 1)) (iv v)) := fun c t v htl w' hw' => by rw [had]; exact ⟨hw'.1.load ha htl v, chg_set hw'.2 (.inr (.inl rfl))⟩
  have sGI : ∀ (c : Gs) (i t : Nat) (p : Nat × Nat) (v : Int), a.y.D[i]? = some p → i < su → t < T.length → ∀ w', (MW w0 T.length su SS a (c) w' ∧ Chg a.W w w') → MW w0 T.length su SS a ⟨c.seen, c.load, updG c.G i t v⟩ (w'.setCell ((⟨p.1, 0, none⟩ : Addr).add ((t : Int).toNat * 1)) (iv v)) ∧ Chg a.W w (w'.setCell ((⟨p.1, 0, none⟩ : Addr).add ((t : Int).toNat * 1)) (iv v)) := fun c i t p v hp hi htl w' hw' => by rw [had]; exact ⟨hw'.1.give ha hi htl hp v, chg_set hw'.2 (.inr (.inr (List.mem_map_of_mem (List.mem_of_getElem? hp))))⟩
  have aSE : ∀ (c : Gs) (t : Nat), t < T.length → ∀ w', (MW w0 T.length su SS a (c) w' ∧ Chg a.W w w') → (∃ cs ty fr, w'.heap[((⟨a.se, 0, none⟩ : Addr).add ((t : Int).toNat * 1)).block]? = some (.cells cs ty fr) ∧ ((⟨a.se, 0, none⟩ : Addr).add ((t : Int).toNat * 1)).off < cs.size) ∧ w'.frozen? ((⟨a.se, 0, none⟩ : Addr).add ((t : Int).toNat * 1)) = false := fun c t htl w' hw' => by rw [had]; exact own_atS hw'.1.2.se htl
  have aLO : ∀ (c : Gs) (t : Nat), t < T.length → ∀ w', (MW w0 T.length su SS a (c) w' ∧ Chg a.W w w') → (∃ cs ty fr, w'.heap[((⟨a.lo, 0, none⟩ : Addr).add ((t : Int).toNat * 1)).block]? = some (.cells cs ty fr) ∧ ((⟨a.lo, 0, none⟩ : Addr).add ((t : Int).toNat * 1)).off < cs.size) ∧ w'.frozen? ((⟨a.lo, 0, none⟩ : Addr).add ((t : Int).toNat * 1)) = false := fun c t htl w' hw' => by rw [had]; exact own_atS hw'.1.2.lo htl
  have aGI : ∀ (c : Gs) (i t : Nat) (p : Nat × Nat), a.y.D[i]? = some p → i < su → t < T.length → ∀ w', (MW w0 T.length su SS a (c) w' ∧ Chg a.W w w') → (∃ cs ty fr, w'.heap[((⟨p.1, 0, none⟩ : Addr).add ((t : Int).toNat * 1)).block]? = some (.cells cs ty fr) ∧ ((⟨p.1, 0, none⟩ : Addr).add ((t : Int).toNat * 1)).off < cs.size) ∧ w'.frozen? ((⟨p.1, 0, none⟩ : Addr).add ((t : Int).toNat * 1)) = false := fun c i t p hp hi htl w' hw' => by rw [had]; exact own_atS (hw'.1.2.gi.r i p _ hp (mkC_at c.G hi)) htl
  have hDl2 : (⟨sl, ro, (su : Int), G.map Rw.xs, T.map Tc.d⟩ : SD).T.length = T.length := hDl
  have hDT : ∀ t : Nat, (⟨sl, ro, (su : Int), G.map Rw.xs, T.map Tc.d⟩ : SD).T[t]? = (T[t]?).map Tc.d := fun t => by simp
  have hDs : (⟨sl, ro, (su : Int), G.map Rw.xs, T.map Tc.d⟩ : SD).sl = sl := rfl
  change ∀ (st : Gs) (j : Nat) (w : World), _ at ih
  generalize hD : (⟨sl, ro, (su : Int), G.map Rw.xs, T.map Tc.d⟩ : SD) = D at *
  have hdlen : a.y.D.length = su := hw.2.dl
  have hroot : outF (growF D f) D j T.length 0 st = growF D (f + 1) j st := by rw [growF, hDl]
  generalize hR : growF D (f + 1) j st = R at *
  refine VC.of env mixed ?_
  repeat'
   conv => whnf
   first
    |refine zB ?_
    |refine eL [.slice to T.length tc] ⟨⟨rfl, fun w' hw' => eT _ w' hw'⟩, ?_⟩
  refine loopH 0 (fun x : Nat × Gs => [(0, .v (iv j)), (1, .v (pt a.sc)), (2, .v (pt a.sb)), (3, .v (pt a.lb)), (4, .v (pt a.gb)), (5, .v (pt a.kb)), (12, .v (.slice to T.length tc)), (13, .v (iv T.length)), (14, .v (iv x.1))]) (fun _ => []) (fun x w' => MW w0 T.length su SS a (x.2) w' ∧ Chg a.W w w') (fun x => x.1 ≤ T.length ∧ Keeps st x.2 ∧ GOK D x.2 ∧ unS x.2 T.length < f + 1 ∧ outF (growF D f) D j (T.length - x.1) x.1 x.2 = R) (fun x => T.length - x.1) (0, st) ⟨Nat.zero_le _, Keeps.refl _, hok, hun, hroot⟩ ⟨rfl, rfl, rfl, rfl, rfl, rfl, rfl, rfl, rfl, trivial⟩ trivial (fun _ h => h) (fun _ _ => ⟨rfl, rfl⟩) ?_
  intro ⟨t, c⟩ ⟨htn, hkc, hokc, hunc, hrest⟩
  dsimp only at htn hkc hokc hunc hrest ⊢
  rcases Nat.lt_or_ge t T.length with htl | htl
  · obtain ⟨⟨ro', rc, xs, hh'⟩, hx⟩ : ∃ b, T[t]? = some b := ⟨_, List.getElem?_eq_getElem htl⟩
    obtain ⟨_, ad, rfl, _⟩ := ht.ptr (by omega)
    have e0 := fun (w' : World) hw' => rd_ati (ht.below (w' := w') hw') hx
    have hrr := hh _ (List.mem_of_getElem? hx)
    have hrb := hb4 _ (List.mem_of_getElem? hx)
    change Rd 1 iF (.slice ro' xs.length rc) xs w0 at hrr
    change xs.length ≤ 1000000 at hrb
    have hDt : D.T[t]? = some (xs, hh') := by rw [hDT, hx]; rfl
    have h5 := htea _ (List.mem_of_getElem? hDt)
    have hgD : D.T.getD t ([], 0) = (xs, hh') := by rw [List.getD_eq_getElem?_getD, hDt]; rfl
    have hteq : teachB D t j = xs.contains (j : Int) := by unfold teachB; rw [hgD]
    have htmq : tmB D t = min hh' sl := by unfold tmB timeP; rw [hgD, hDs]
    unfold timeP at h5
    rw [hDs] at h5
    dsimp only at h5
    have c127 := fun (w' : World) (hb : Below w0.heap.size w0 w') => Contains_ok xs ro' rc j w' (hrr.below hb) hrb
    have hk1 : T.length - t = (T.length - (t + 1)) + 1 := by omega
    rw [hk1, outF, hteq, htmq] at hrest
    cases hse : c.seen t with
    | true =>
     rw [hse, Bool.true_or, if_pos rfl] at hrest
     have eSE1 := eSE c t htl
     rw [hse] at eSE1
     repeat'
      conv => whnf
      first
       |refine zC ?_|refine zF ?_|refine zG ?_|refine splT ?_
       |(refine splD ?_ ?_ <;> intro hc <;> first|(exfalso; omega)|skip)
       |refine eL [.slice ro' xs.length rc, iv hh'] ⟨⟨rfl, fun w' hw' => e0 w' hw'.1.1⟩, ?_⟩
       |refine eL [.slice (some ⟨a.se, 0, none⟩) T.length a.sec] ⟨⟨rfl, fun w' hw' => eSB _ w' hw'⟩, ?_⟩
       |refine eL [.bool true] ⟨⟨rfl, fun w' hw' => eSE1 w' hw'⟩, ?_⟩
     all_goals exact ⟨(t + 1, c), ⟨by dsimp only; omega, hkc, hokc, hunc, hrest⟩, by dsimp only; omega, Ent.weak rfl ⟨rfl, rfl, rfl, rfl, rfl, rfl, rfl, rfl, rfl, trivial⟩ trivial fun _ h => h⟩
    | false =>
     have eSE1 := eSE c t htl
     rw [hse] at eSE1
     cases hct : xs.contains (j : Int) with
     | false =>
      rw [hse, hct, if_pos (show (false || !false) = true from rfl)] at hrest
      rw [hct] at c127
      repeat'
       conv => whnf
       first
        |refine zB ?_|refine zC ?_|refine zD ?_|refine zF ?_|refine zG ?_|refine splT ?_|refine splF ?_
        |(refine splD ?_ ?_ <;> intro hc <;> first|(exfalso; omega)|skip)
        |refine eL [.slice ro' xs.length rc, iv hh'] ⟨⟨rfl, fun w' hw' => e0 w' hw'.1.1⟩, ?_⟩
        |refine eL [.slice (some ⟨a.se, 0, none⟩) T.length a.sec] ⟨⟨rfl, fun w' hw' => eSB _ w' hw'⟩, ?_⟩
        |refine eL [.bool false] ⟨⟨rfl, fun w' hw' => eSE1 w' hw'⟩, ?_⟩
        |((with_reducible show CallEv _ _ 127 ..); refine callE (fun β w' hbw => c127 w' hbw.1.1) ?_)
      all_goals exact ⟨(t + 1, c), ⟨by dsimp only; omega, hkc, hokc, hunc, hrest⟩, by dsimp only; omega, Ent.weak rfl ⟨rfl, rfl, rfl, rfl, rfl, rfl, rfl, rfl, rfl, trivial⟩ trivial fun _ h => h⟩
     | true =>
      rw [hse, hct, if_neg (by decide)] at hrest
      rw [hct] at c127
      have eS5 : ∀ (c : Gs) w', (MW w0 T.length su SS a (c) w' ∧ Chg a.W w w') → ∀ q z, [iv sl, iv ro, iv su, .slice go G.length gc, .slice (some ad) T.length tc][q]? = some z → w'.cell? ((⟨a.sc, 0, none⟩ : Addr).add q) = some z := fun c w' hw' => by rw [hSS]; exact eS c w' hw'
      have c128 := fun (w' : World) (_ : Below w0.heap.size w0 w') => Time_ok sl ro su go (some ad) G.length gc T.length tc ro' xs.length rc hh' w'
      have hmi1 := hmi hh' sl
      have hlb : 0 ≤ c.load t ∧ c.load t ≤ 40 := by
       have h1 := hokc.ld t (by omega)
       have h2 := hokc.tm t (by omega)
       have h3 : 0 ≤ sumN (fun i => c.G i t) D.su.toNat := sumN_nn fun i hi => hokc.nn t (by omega) i hi
       rw [htmq] at h2
       omega
      by_cases hlt : c.load t < min hh' sl
      · rw [if_pos hlt] at hrest
        obtain ⟨p, hp⟩ : ∃ p, a.y.D[j]? = some p := ⟨_, List.getElem?_eq_getElem (by omega)⟩
        have hgb := GOK.bd hokc (show t < D.T.length by omega) (show j < D.su.toNat by omega)
        obtain ⟨c2, hc2⟩ : ∃ c2 : Gs, c2 = ⟨(markG c t).seen, fun k => if k = t then c.load t + 1 else c.load k, c.G⟩ := ⟨_, rfl⟩
        have hR2 : R = (true, ⟨c2.seen, c2.load, updG c2.G j t (c.G j t + 1)⟩) := by rw [← hrest, hc2]; rfl
        have hcg : c2.G = c.G := by rw [hc2]
        have eG2 := eGI c2 j t p hp hj htl
        rw [hcg] at eG2
        have sLO2 := sLO (markG c t) t (c.load t + 1) htl
        change ∀ w', _ → MW w0 T.length su SS a (⟨(markG c t).seen, fun k => if k = t then c.load t + 1 else c.load k, c.G⟩ : Gs) _ ∧ _ at sLO2
        rw [← hc2] at sLO2
        rw [hR2]
        repeat'
         conv => whnf
         first
          |refine zA ?_|refine zB ?_|refine zC ?_|refine zD ?_|refine zF ?_|refine zG ?_|refine splF ?_
          |(refine splD ?_ ?_ <;> intro hc <;> first|(exfalso; omega)|skip)
          |refine eL [.slice ro' xs.length rc, iv hh'] ⟨⟨rfl, fun w' hw' => e0 w' hw'.1.1⟩, ?_⟩
          |refine eL [.slice (some ⟨a.se, 0, none⟩) T.length a.sec] ⟨⟨rfl, fun w' hw' => eSB _ w' hw'⟩, ?_⟩
          |refine eL [.bool false] ⟨⟨rfl, fun w' hw' => eSE1 w' hw'⟩, ?_⟩
          |((with_reducible show CallEv _ _ 127 ..); refine callE (fun β w' hbw => c127 w' hbw.1.1) ?_)
          |refine stF env rfl rfl rfl rfl rfl rfl (hsp1 _ _) (fun w' => MW w0 T.length su SS a (markG c t) w' ∧ Chg a.W w w') (fun w' hw' => aSE c t htl w' hw') (fun w' hw' => sSE c t htl w' hw') ?_
          |refine eL [.slice (some ⟨a.lo, 0, none⟩) T.length a.loc] ⟨⟨rfl, fun w' hw' => eLB _ w' hw'⟩, ?_⟩
          |refine eL [iv (c.load t)] ⟨⟨rfl, fun w' hw' => eLO (markG c t) t htl w' hw'⟩, ?_⟩
          |refine eL [iv sl, iv ro, iv su, .slice go G.length gc, .slice (some ad) T.length tc] ⟨⟨rfl, fun w' hw' => eS5 _ w' hw'⟩, ?_⟩
          |((with_reducible show CallEv _ _ 128 ..); refine callE (fun β w' hbw => c128 w' hbw.1.1) ?_)
          |refine stF env rfl rfl rfl rfl rfl rfl (hsp1 _ _) (fun w' => MW w0 T.length su SS a (c2) w' ∧ Chg a.W w w') (fun w' hw' => aLO (markG c t) t htl w' hw') (fun w' hw' => sLO2 w' hw') ?_
          |refine eL [.slice (some ⟨a.y.o, 0, none⟩) su a.y.c] ⟨⟨rfl, fun w' hw' => eGB _ w' hw'⟩, ?_⟩
          |refine eL [.slice (some ⟨p.1, 0, none⟩) T.length p.2] ⟨⟨rfl, fun w' hw' => eGR _ j p hp w' hw'⟩, ?_⟩
          |refine eL [iv (c.G j t)] ⟨⟨rfl, fun w' hw' => eG2 w' hw'⟩, ?_⟩
          |refine stF env rfl rfl rfl rfl rfl rfl (hsp1 _ _) (fun w' => MW w0 T.length su SS a (⟨c2.seen, c2.load, updG c2.G j t (c.G j t + 1)⟩) w' ∧ Chg a.W w w') (fun w' hw' => aGI (c2) j t p hp hj htl w' hw') (fun w' hw' => sGI (c2) j t p (c.G j t + 1) hp hj htl w' hw') ?_
        all_goals exact ⟨fun β => rfl, fun w' h => h⟩
      · rw [if_neg hlt] at hrest
        have hum : unS (markG c t) T.length + 1 = unS c T.length := unS_mark htl hse
        have hle : w0.heap.size ≤ w.heap.size := hw.1.size
        obtain ⟨pj, hpj⟩ : ∃ p, a.y.D[j]? = some p := ⟨_, List.getElem?_eq_getElem (by omega)⟩
        rw [hDsu] at hrest
        repeat'
         conv => whnf
         first
          |refine zA ?_|refine zB ?_|refine zC ?_|refine zD ?_|refine zG ?_|refine splF ?_
          |(refine splD ?_ ?_ <;> intro hc <;> first|(exfalso; omega)|skip)
          |refine eL [.slice ro' xs.length rc, iv hh'] ⟨⟨rfl, fun w' hw' => e0 w' hw'.1.1⟩, ?_⟩
          |refine eL [.slice (some ⟨a.se, 0, none⟩) T.length a.sec] ⟨⟨rfl, fun w' hw' => eSB _ w' hw'⟩, ?_⟩
          |refine eL [.bool false] ⟨⟨rfl, fun w' hw' => eSE1 w' hw'⟩, ?_⟩
          |((with_reducible show CallEv _ _ 127 ..); refine callE (fun β w' hbw => c127 w' hbw.1.1) ?_)
          |refine stF env rfl rfl rfl rfl rfl rfl (hsp1 _ _) (fun w' => MW w0 T.length su SS a (markG c t) w' ∧ Chg a.W w w') (fun w' hw' => aSE c t htl w' hw') (fun w' hw' => sSE c t htl w' hw') ?_
          |refine eL [.slice (some ⟨a.lo, 0, none⟩) T.length a.loc] ⟨⟨rfl, fun w' hw' => eLB _ w' hw'⟩, ?_⟩
          |refine eL [iv (c.load t)] ⟨⟨rfl, fun w' hw' => eLO (markG c t) t htl w' hw'⟩, ?_⟩
          |refine eL [iv sl, iv ro, iv su, .slice go G.length gc, .slice (some ad) T.length tc] ⟨⟨rfl, fun w' hw' => eS5 _ w' hw'⟩, ?_⟩
          |((with_reducible show CallEv _ _ 128 ..); refine callE (fun β w' hbw => c128 w' hbw.1.1) ?_)
          |refine eL [.slice (some ⟨a.y.o, 0, none⟩) su a.y.c] ⟨⟨rfl, fun w' hw' => eGB _ w' hw'⟩, ?_⟩
        refine loopH 0 (fun x : Nat × Gs => [(0, .v (iv j)), (1, .v (pt a.sc)), (2, .v (pt a.sb)), (3, .v (pt a.lb)), (4, .v (pt a.gb)), (5, .v (pt a.kb)), (8, .v (iv t)), (12, .v (.slice (some ad) T.length tc)), (13, .v (iv T.length)), (14, .v (iv t)), (57, .v (iv su)), (58, .v (iv x.1))]) (fun _ => []) (fun x w' => MW w0 T.length su SS a (x.2) w' ∧ Chg a.W w w') (fun x => x.1 ≤ su ∧ Keeps st x.2 ∧ GOK D x.2 ∧ unS x.2 T.length < f ∧ (if (innF (growF D f) j t (su - x.1) x.1 x.2).1 = true then innF (growF D f) j t (su - x.1) x.1 x.2 else outF (growF D f) D j (T.length - (t + 1)) (t + 1) (innF (growF D f) j t (su - x.1) x.1 x.2).2) = R) (fun x => su - x.1) (0, markG c t) ⟨Nat.zero_le _, hkc.mark t, hokc.mark t, (by dsimp only; omega), hrest⟩ ⟨rfl, rfl, rfl, rfl, rfl, rfl, rfl, rfl, rfl, rfl, rfl, rfl, trivial⟩ trivial (fun _ h => h) (fun _ _ => ⟨rfl, rfl⟩) ?_
        clear hrest hse
        intro ⟨i, d⟩ ⟨hin, hkd, hokd, hund, hrest⟩
        dsimp only at hin hkd hokd hund hrest ⊢
        rcases Nat.lt_or_ge i su with hil | hil
        · obtain ⟨p, hp⟩ : ∃ p, a.y.D[i]? = some p := ⟨_, List.getElem?_eq_getElem (by omega)⟩
          have hgs := hsp i d hil hokd hund
          have hgb := GOK.bd hokd (show t < D.T.length by omega) (show i < D.su.toNat by omega)
          have hk2 : su - i = (su - (i + 1)) + 1 := by omega
          rw [hk2, innF] at hrest
          have hcall : ∀ w', (MW w0 T.length su SS a (d) w' ∧ Chg a.W w w') → Calls Tryz.prog 126 #[iv i, pt a.sc, pt a.sb, pt a.lb, pt a.gb, pt a.kb] w' fun e w2 => e = .returned (.bool (growF D f i d).1) ∧ Chg a.W w' w2 ∧ (MW w0 T.length su SS a (growF D f i d).2 w2 ∧ Chg a.W w w2) := fun w' hw' => (ih d i w' hil hokd hund hw'.1).mono fun e w2 h => ⟨h.1, h.2.2, h.2.1, chg_trans hw'.2 h.2.2⟩
          by_cases h0 : 0 < d.G i t
          · rw [if_pos h0] at hrest
            generalize hr0 : growF D f i d = r at *
            cases hb : r.1 with
            | true =>
             rw [if_pos hb] at hrest
             rw [if_pos rfl] at hrest
             rw [hb] at hcall
             have hgb1 := GOK.bd hgs.ok (show t < D.T.length by omega) (show i < D.su.toNat by omega)
             have hgb2 := GOK.bd hgs.ok (show t < D.T.length by omega) (show j < D.su.toNat by omega)
             obtain ⟨r2, hr2⟩ : ∃ r2 : Gs, r2 = ⟨r.2.seen, r.2.load, updG r.2.G i t (r.2.G i t - 1)⟩ := ⟨_, rfl⟩
             have hR2 : R = (true, ⟨r2.seen, r2.load, updG r2.G j t (r2.G j t + 1)⟩) := by rw [← hrest, hr2]; rfl
             have hgb3 : -1 ≤ r2.G j t ∧ r2.G j t ≤ 40 := by
              rw [hr2]
              show -1 ≤ updG r.2.G i t (r.2.G i t - 1) j t ∧ updG r.2.G i t (r.2.G i t - 1) j t ≤ 40
              rw [updG_at]
              split <;> omega
             have sG2 := sGI r.2 i t p (r.2.G i t - 1) hp hil htl
             rw [← hr2] at sG2
             rw [hR2]
             clear hR2 hrest hr2
             repeat'
              conv => whnf
              first
               |refine zD ?_|refine zF ?_|refine zG ?_|refine splT ?_
               |(refine splD ?_ ?_ <;> intro hc <;> first|(exfalso; omega)|skip)
               |refine eL [.slice (some ⟨a.y.o, 0, none⟩) su a.y.c] ⟨⟨rfl, fun w' hw' => eGB _ w' hw'⟩, ?_⟩
               |refine eL [.slice (some ⟨p.1, 0, none⟩) T.length p.2] ⟨⟨rfl, fun w' hw' => eGR _ i p hp w' hw'⟩, ?_⟩
               |refine eL [iv (d.G i t)] ⟨⟨rfl, fun w' hw' => eGI d i t p hp hil htl w' hw'⟩, ?_⟩
               |refine eL [a.fn] ⟨⟨rfl, fun w' hw' => eKB _ w' hw'⟩, ?_⟩
               |((with_reducible show CallEv _ _ 126 ..); refine callFW (.bool true) w (fun b => b < w.heap.size ∧ ¬ a.W b) a.Q a.W (fun w' => MW w0 T.length su SS a (r.2) w' ∧ Chg a.W w w') (fun β w' hw' => hcall w' hw') (fun w' hw' b hb => ⟨Nat.lt_of_lt_of_le hb.1 hw'.2.size, hw'.2.same b hb.1 hb.2⟩) (fun b hb => .inl hb) (fun b hb w' hw' => hw'.1.2.cells hb) (fun w' w2 hw' hc => ⟨hw'.1.dep2 ha hle hc, chg_dep hw'.2 hc⟩) ?_)
               |refine eL [iv (r.2.G i t)] ⟨⟨rfl, fun w' hw' => eGI r.2 i t p hp hil htl w' hw'⟩, ?_⟩
               |refine stF env rfl rfl rfl rfl rfl rfl (hsp1 _ _) (fun w' => MW w0 T.length su SS a (r2) w' ∧ Chg a.W w w') (fun w' hw' => aGI (r.2) i t p hp hil htl w' hw') (fun w' hw' => sG2 w' hw') ?_
               |refine eL [.slice (some ⟨pj.1, 0, none⟩) T.length pj.2] ⟨⟨rfl, fun w' hw' => eGR _ j pj hpj w' hw'⟩, ?_⟩
               |refine eL [iv (r2.G j t)] ⟨⟨rfl, fun w' hw' => eGI r2 j t pj hpj hj htl w' hw'⟩, ?_⟩
               |refine stF env rfl rfl rfl rfl rfl rfl (hsp1 _ _) (fun w' => MW w0 T.length su SS a (⟨r2.seen, r2.load, updG r2.G j t (r2.G j t + 1)⟩) w' ∧ Chg a.W w w') (fun w' hw' => aGI (r2) j t pj hpj hj htl w' hw') (fun w' hw' => sGI (r2) j t pj (r2.G j t + 1) hpj hj htl w' hw') ?_
             all_goals exact ⟨fun β => rfl, fun w' h => h⟩
            | false =>
             simp only [hb, Bool.false_eq_true, if_false] at hrest
             rw [hb] at hcall
             have hkr : Keeps d r.2 := ⟨(hgs.fG hb).1, (hgs.fG hb).2, hgs.mono⟩
             have hunr : unS r.2 T.length ≤ unS d T.length := unS_le fun t' _ h => hgs.mono t' h
             repeat'
              conv => whnf
              first
               |refine zD ?_|refine zF ?_|refine zG ?_|refine splF ?_
               |(refine splD ?_ ?_ <;> intro hc <;> first|(exfalso; omega)|skip)
               |refine eL [.slice (some ⟨a.y.o, 0, none⟩) su a.y.c] ⟨⟨rfl, fun w' hw' => eGB _ w' hw'⟩, ?_⟩
               |refine eL [.slice (some ⟨p.1, 0, none⟩) T.length p.2] ⟨⟨rfl, fun w' hw' => eGR _ i p hp w' hw'⟩, ?_⟩
               |refine eL [iv (d.G i t)] ⟨⟨rfl, fun w' hw' => eGI d i t p hp hil htl w' hw'⟩, ?_⟩
               |refine eL [a.fn] ⟨⟨rfl, fun w' hw' => eKB _ w' hw'⟩, ?_⟩
               |((with_reducible show CallEv _ _ 126 ..); refine callFW (.bool false) w (fun b => b < w.heap.size ∧ ¬ a.W b) a.Q a.W (fun w' => MW w0 T.length su SS a (r.2) w' ∧ Chg a.W w w') (fun β w' hw' => hcall w' hw') (fun w' hw' b hb => ⟨Nat.lt_of_lt_of_le hb.1 hw'.2.size, hw'.2.same b hb.1 hb.2⟩) (fun b hb => .inl hb) (fun b hb w' hw' => hw'.1.2.cells hb) (fun w' w2 hw' hc => ⟨hw'.1.dep2 ha hle hc, chg_dep hw'.2 hc⟩) ?_)
             all_goals exact ⟨(i + 1, r.2), ⟨by dsimp only; omega, hkd.trans hkr, hgs.ok, by dsimp only; omega, hrest⟩, by dsimp only; omega, Ent.weak rfl ⟨rfl, rfl, rfl, rfl, rfl, rfl, rfl, rfl, rfl, rfl, rfl, rfl, trivial⟩ trivial fun _ h => h⟩
          · rw [if_neg h0] at hrest
            repeat'
             conv => whnf
             first
              |refine zF ?_|refine zG ?_|refine splF ?_
              |(refine splD ?_ ?_ <;> intro hc <;> first|(exfalso; omega)|skip)
              |refine eL [.slice (some ⟨a.y.o, 0, none⟩) su a.y.c] ⟨⟨rfl, fun w' hw' => eGB _ w' hw'⟩, ?_⟩
              |refine eL [.slice (some ⟨p.1, 0, none⟩) T.length p.2] ⟨⟨rfl, fun w' hw' => eGR _ i p hp w' hw'⟩, ?_⟩
              |refine eL [iv (d.G i t)] ⟨⟨rfl, fun w' hw' => eGI d i t p hp hil htl w' hw'⟩, ?_⟩
            all_goals exact ⟨(i + 1, d), ⟨by dsimp only; omega, hkd, hokd, hund, hrest⟩, by dsimp only; omega, Ent.weak rfl ⟨rfl, rfl, rfl, rfl, rfl, rfl, rfl, rfl, rfl, rfl, rfl, rfl, trivial⟩ trivial fun _ h => h⟩
        · obtain rfl : i = su := by omega
          rw [Nat.sub_self, innF] at hrest
          simp only [Bool.false_eq_true, if_false] at hrest
          repeat'
           conv => whnf
           first
            |refine zF ?_
            |(refine splD ?_ ?_ <;> intro hc <;> first|(exfalso; omega)|skip)
          all_goals exact ⟨(t + 1, d), ⟨by dsimp only; omega, hkd, hokd, by dsimp only; omega, hrest⟩, by dsimp only; omega, Ent.weak rfl ⟨rfl, rfl, rfl, rfl, rfl, rfl, rfl, rfl, rfl, trivial⟩ trivial fun _ h => h⟩
  · obtain rfl : t = T.length := by omega
    rw [Nat.sub_self, outF] at hrest
    subst hrest
    repeat'
     conv => whnf
     first
      |(refine splD ?_ ?_ <;> intro hc <;> first|(exfalso; omega)|skip)
    all_goals exact ⟨fun β => rfl, fun w' h => h⟩
end Go.Proofs.YtkbfcofifhngfaaGreat
namespace Go.Proofs.YtkbfcofifhngfaaGreat.Tx
open Go Go.RowKit
theorem stG {P : Program} (T : Env P) {dst : Option Tmp} {ty t : TypeId} {pos : String} {after : Array Edge} {gd : Option (Nat × Bool)} {gs : List Nat} {σ : Sg} {K : Ef → Prop} {ks : KT} {x y : Operand} {ad : Addr} {ti : TI} {i j n sz : Nat} {e : TypeId} {xs : List Value} (w0 : World) (t' : List (Nat × SV))
 (hx : gv σ x = some (.v (.pointer (some ad)))) (hy : gv σ y = some (.os i j n)) (hi : lk σ.m i = some (.own j n sz xs e)) (ht : T.ty t = some ti) (hsz : ti.size = 1) (hsp : ad.spot = none) (hz : σ.z.g = []) (htt : TSub σ.t t') (hbel : ∀ w, σ.h w → Below w0.heap.size w0 w) (h' : Nat → Nat → World → Prop)
 (hold : ∀ w, σ.h w → (∃ cs ty fr, w.heap[ad.block]? = some (.cells cs ty fr) ∧ ad.off < cs.size) ∧ w.frozen? ad = false)
 (hnew : ∀ w b d, σ.h w → w0.heap.size ≤ b → (∀ c, (∀ w, σ.h w → ∃ cs ty fr, w.heap[c]? = some (.cells cs ty fr)) → b ≠ c) → w.ownsRow 0 e sz (.slice (some ⟨b, 0, none⟩) n d) n xs → h' b d (w.setCell ad (.slice (some ⟨b, 0, none⟩) n d)))
 (hK : ∀ b d, w0.heap.size ≤ b → (∀ c, (∀ w, σ.h w → ∃ cs ty fr, w.heap[c]? = some (.cells cs ty fr)) → b ≠ c) → ks (.v undef) ⟨σ.nt, t', [], σ.nb, h' b d, σ.z⟩) :
 OpEvS P ⟨dst, .store t x y, ty, pos, after, gd⟩ gs σ K (some ks) := by
 refine .sk ks rfl rfl fun X β D a w hok hs => ?_
 have hb : D ad.block := hs.dof fun w hw => by obtain ⟨⟨cs, ty, fr, h, _⟩, _⟩ := hold w hw; exact ⟨cs, ty, fr, h⟩
 have hw := hs.h w (Chg.refl _ _)
 obtain ⟨⟨cs, ty', fr, h1, h2⟩, h3⟩ := hold w hw
 have hmem := hs.mem
 have hge : w0.heap.size ≤ β i := Nat.le_of_not_lt fun hlt => hmem.out i _ hi rfl (hmem.old hbel hlt)
 have hne : ∀ c, (∀ w, σ.h w → ∃ cs ty fr, w.heap[c]? = some (.cells cs ty fr)) → β i ≠ c := fun c hc e => hs.out i _ hi rfl (by rw [e]; exact hs.dof hc)
 obtain ⟨oo, ho1, ho2⟩ := Blk.ok_cells (k := .own j n sz xs e) rfl (hs.m i _ hi)
 have hown := hs.m i _ hi
 simp only [Blk.ok] at hown
 have hno : ∀ (d : Nat) (o : Obj), w.heap[d]? = some o → Other o → ¬ β i = d := by
  rintro d o h1 h2 rfl
  rw [h1] at ho1
  cases ho1
  exact h2 ho2
 have hm := setCell_at (v := .slice (some ⟨β i, 0, none⟩) n (β j)) h1 hsp
 have hab : ad.block ≠ β i := fun e => hs.out i _ hi rfl (by rw [← e]; exact hb)
 refine ⟨⟨σ.nt, t', [], σ.nb, h' (β i) (β j), σ.z⟩, β, fun b => D b ∨ β i = b, w.setCell ad (.slice (some ⟨β i, 0, none⟩) n (β j)), ?_, hK _ _ hge hne, ⟨⟨fun k s hk => hok.wf.t k s (htt.get k s hk), hok.wf.g, fun i b hi => by simp [lk] at hi⟩, fun k s hk => hok.lt k s (htt.get k s hk)⟩, rfl, ?_⟩
 · have hse := hs.sees ⟨.v undef, [], [], os x ++ os y, []⟩
   have e1 := gv_eval hse hx (fun k hk => by simp [hk])
   have e2 := gv_eval hse hy (fun k hk => by simp [hk])
   have htok := T.tok t ti ht
   have hcell : ∃ u, w.cell? ad = some u := ⟨cs[ad.off], by simp only [World.cell?, h1, hsp]; simp [h2]⟩
   obtain ⟨u, hcell⟩ := hcell
   have hadd : ad.add 0 = ad := by simp [Addr.add]
   have hst : (store ad (.slice (some ⟨β i, 0, none⟩) n (β j))).run P w = .ok () (w.setCell ad (.slice (some ⟨β i, 0, none⟩) n (β j))) := by
    rw [run_store P w _ _ _ rfl, hcell]
    simp [h3]
   have hvc : (Value.slice (some ⟨β i, 0, none⟩) n (β j)).cells = #[Value.slice (some ⟨β i, 0, none⟩) n (β j)] := rfl
   simp only [execOp, Instr.storeAt, Instr.sureAddr, e1, e2, SV.c, Sem.run_bind, Sem.run_pure, Result.andThen_ok, storeVar, htok.run_sizeOf w, hsz, hvc, List.size_toArray, List.length_singleton, ne_eq, not_true_eq_false, if_false, storeCells, hadd, hst]
 · have hkeep : ∀ (b : Nat) (o : Obj), w.heap[b]? = some o → Other o → (w.setCell ad (.slice (some ⟨β i, 0, none⟩) n (β j))).heap[b]? = some o := fun b o hbo hot => by
    rw [setCell_other (fun e => by subst e; rw [h1, Option.some.injEq] at hbo; subst hbo; exact hot trivial)]
    exact hbo
   refine ⟨?_, hs.size, fun k s hk => hs.t k s (htt.get k s hk), fun i b hi => (by simp [lk] at hi), fun i j bi bj hi => (by simp [lk] at hi), fun i b hi => (by simp [lk] at hi), fun b hb' => ?_, fun w2 hc => ?_, ?_⟩
   · obtain ⟨l, l1, l2, l3⟩ := hs.defers
     refine ⟨l, l1, l2, fun d hd => ⟨hkeep _ _ (l3 d hd).1 (fun h => h), ?_, (l3 d hd).2.2⟩⟩
     rintro (h | h)
     · exact (l3 d hd).2.1 h
     · exact hno d _ (l3 d hd).1 (fun h => h) h
   · rw [setCell_size]
     rcases hb' with h | rfl
     · exact hs.dlt b h
     · exact (Array.getElem?_eq_some_iff.1 ho1).1
   · let w1 : World := w2.putObj ad.block (.cells cs ty' fr)
     have hl2 : ad.block < w2.heap.size := Nat.lt_of_lt_of_le (Array.getElem?_eq_some_iff.1 hm).1 hc.size
     have e1 : w1.heap[ad.block]? = some (.cells cs ty' fr) := World.putObj_heap_same hl2
     have hsz2 : w.heap.size ≤ w2.heap.size := by have := hc.size; rw [setCell_size] at this; exact this
     have hw1 : σ.h w1 := hs.h w1 ⟨hc.os, hc.tape, hc.output, Nat.le_trans hsz2 (Nat.le_of_eq World.putObj_size.symm), fun b hlt hn => by
      by_cases hbe : b = ad.block
      · subst hbe; rw [e1, h1]
      · show (w2.putObj ad.block _).heap[b]? = _
        rw [World.putObj_heap_other hbe, hc.same b (by rw [setCell_size]; exact hlt) (fun h => hn fun h2 => h (.inl h2)), setCell_other hbe]⟩
     have hfin : w1.setCell ad (.slice (some ⟨β i, 0, none⟩) n (β j)) = w2 := by
      have e4 := setCell_at (v := .slice (some ⟨β i, 0, none⟩) n (β j)) e1 hsp
      have e5 : w2.heap[ad.block]? = some (.cells (cs.setIfInBounds ad.off (.slice (some ⟨β i, 0, none⟩) n (β j))) ty' fr) := by
       rw [hc.same _ (by rw [setCell_size]; exact (Array.getElem?_eq_some_iff.1 h1).1) (fun h => h (.inl hb))]; exact hm
      have e6 : (w1.setCell ad (.slice (some ⟨β i, 0, none⟩) n (β j))).heap = w2.heap := Array.ext_getElem? fun i => by
       by_cases hi : i = ad.block
       · subst hi; rw [e4, e5]
       · rw [setCell_other hi]; exact World.putObj_heap_other hi
      have e7 : w1.setCell ad (.slice (some ⟨β i, 0, none⟩) n (β j)) = { w2 with heap := (w1.setCell ad (.slice (some ⟨β i, 0, none⟩) n (β j))).heap } := rfl
      rw [e7, e6]
     have hown1 : (Blk.own j n sz xs e).ok β w1 (β i) := Blk.keep_at (by
      show (w2.putObj ad.block _).heap[β i]? = _
      rw [World.putObj_heap_other hab.symm, hc.same _ (by rw [setCell_size]; exact (Array.getElem?_eq_some_iff.1 ho1).1) (fun h => h (.inr rfl)), setCell_other hab.symm]) (hs.m i _ hi)
     simp only [Blk.ok] at hown1
     have := hnew w1 (β i) (β j) hw1 hge hne hown1
     rw [hfin] at this
     exact this
   · refine ⟨fun k s hk => (by have hk : lk σ.z.g k = some s := hk; rw [hz] at hk; simp [lk] at hk), fun p hp' => ⟨?_, ?_⟩, fun i2 e2 hi2 => ?_, hs.amb.dep, hs.amb.nd, fun d hd => ⟨hkeep _ _ (hs.amb.pr d hd).1 (fun h => h), ?_⟩⟩
     · obtain ⟨st, pd, h2⟩ := (hs.amb.la p hp').1
       exact ⟨st, pd, hkeep _ _ h2 (fun h => h)⟩
     · rintro (h1 | h1)
       · exact (hs.amb.la p hp').2 h1
       · obtain ⟨st, pd, h2⟩ := (hs.amb.la p hp').1
         exact hno _ _ h2 (fun h => h) h1
     · obtain ⟨r, q1, q2, q3⟩ := hs.amb.lq i2 e2 hi2
       exact ⟨r, q1, q2, hkeep _ _ q3 (fun h => h)⟩
     · rintro (h1 | h1)
       · exact (hs.amb.pr d hd).2 h1
       · exact hno _ _ (hs.amb.pr d hd).1 (fun h => h) h1
end Go.Proofs.YtkbfcofifhngfaaGreat.Tx
namespace Go.Proofs.YtkbfcofifhngfaaGreat
open Go Tx Go.RowKit
structure MN (m n su : Nat) (S : List Value) (a : GA) (s : Gs) (w : World) : Prop where
 sc : w.heap[a.sc]? = some (.cells S.toArray 34 (0, 0))
 sb : ∃ v, w.heap[a.sb]? = some (.cells #[v] 167 (0, 0))
 lb : w.heap[a.lb]? = some (.cells #[.slice (some ⟨a.lo, 0, none⟩) n a.loc] 36 (0, 0))
 gb : w.heap[a.gb]? = some (.cells #[.slice (some ⟨a.y.o, 0, none⟩) su a.y.c] 22 (0, 0))
 kb : w.heap[a.kb]? = some (.cells #[a.fn] 127 (0, 0))
 lo : w.ownsRow 0 3 1 (.slice (some ⟨a.lo, 0, none⟩) n a.loc) n (tbV n s.load)
 gi : TbIn m n a.y (mkC su n s.G) w
structure GA.OkN (a : GA) (m : Nat) : Prop where
 sc : m ≤ a.sc
 sb : m ≤ a.sb
 lb : m ≤ a.lb
 gb : m ≤ a.gb
 kb : m ≤ a.kb
 lo : m ≤ a.lo
 e1 : ∀ b, b = a.lo ∨ b ∈ a.rows → b ≠ a.sc ∧ b ≠ a.sb ∧ b ≠ a.lb ∧ b ≠ a.gb ∧ b ≠ a.kb ∧ b ≠ a.y.o
 e4 : a.lo ∉ a.rows
 e5 : a.sb ≠ a.sc ∧ a.sb ≠ a.lb ∧ a.sb ≠ a.gb ∧ a.sb ≠ a.kb ∧ a.sb ≠ a.y.o
def MV (w0 : World) (n su : Nat) (S : List Value) (a : GA) (s : Gs) (w : World) : Prop := Below w0.heap.size w0 w ∧ MN w0.heap.size n su S a s w
theorem MW.n {w0 : World} {n su : Nat} {S : List Value} {a : GA} {s : Gs} {w : World} (h : MW w0 n su S a s w) : MV w0 n su S a s w := ⟨h.1, h.2.sc, ⟨_, h.2.sb⟩, h.2.lb, h.2.gb, h.2.kb, h.2.lo, h.2.gi⟩
def GA.at (a : GA) (b d : Nat) : GA := { a with se := b, sec := d }
def GA.Qn (a : GA) (b : Nat) : Prop := b = a.lo ∨ b ∈ a.rows ∨ b = a.sc ∨ b = a.sb ∨ b = a.lb ∨ b = a.gb ∨ b = a.kb ∨ b = a.y.o
theorem MN.cells {m n su : Nat} {S : List Value} {a : GA} {s : Gs} {w : World} (h : MN m n su S a s w) {b : Nat} (hb : a.Qn b) : ∃ cs ty fr, w.heap[b]? = some (.cells cs ty fr) := by
 rcases hb with rfl | hb | rfl | rfl | rfl | rfl | rfl | rfl
 · exact own_cells h.lo
 · obtain ⟨p, hp, rfl⟩ := List.mem_map.1 hb
   obtain ⟨i, hi⟩ := List.mem_iff_getElem?.1 hp
   have hl := h.gi.l
   rw [mkC_len] at hl
   exact own_cells (h.gi.r i p _ hi (mkC_at s.G (by rw [hl]; exact (List.getElem?_eq_some_iff.1 hi).1)))
 · exact ⟨_, _, _, h.sc⟩
 · obtain ⟨v, hv⟩ := h.sb; exact ⟨_, _, _, hv⟩
 · exact ⟨_, _, _, h.lb⟩
 · exact ⟨_, _, _, h.gb⟩
 · exact ⟨_, _, _, h.kb⟩
 · exact own_cells h.gi.h
theorem GA.OkN.at {a : GA} {m b d : Nat} (h : a.OkN m) (hb : m ≤ b) (hne : ∀ c, a.Qn c → b ≠ c) : (a.at b d).Ok m := by
 refine ⟨h.sc, h.sb, h.lb, h.gb, h.kb, hb, h.lo, fun c hc => ?_, hne _ (.inl rfl), fun hr => hne _ (.inr (.inl hr)) rfl, h.e4⟩
 rcases hc with rfl | hc | hc
 · exact ⟨hne _ (by simp [GA.Qn, GA.at]), hne _ (by simp [GA.Qn, GA.at]), hne _ (by simp [GA.Qn, GA.at]), hne _ (by simp [GA.Qn, GA.at]), hne _ (by simp [GA.Qn, GA.at]), hne _ (by simp [GA.Qn, GA.at])⟩
 · exact h.e1 c (.inl hc)
 · exact h.e1 c (.inr hc)
theorem MV.ask {w0 : World} {n su : Nat} {S : List Value} {a : GA} {s : Gs} {w : World} {b d : Nat} (ha : a.OkN w0.heap.size) (h : MV w0 n su S a s w) (hne : ∀ c, a.Qn c → b ≠ c) (ho : w.ownsRow 0 4 1 (.slice (some ⟨b, 0, none⟩) n d) n (tbB n fun _ => false)) :
 MW w0 n su S (a.at b d) ⟨fun _ => false, s.load, s.G⟩ (w.setCell ⟨a.sb, 0, none⟩ (.slice (some ⟨b, 0, none⟩) n d)) := by
 obtain ⟨hb, h⟩ := h
 have hk : ∀ c, c ≠ a.sb → (w.setCell ⟨a.sb, 0, none⟩ (.slice (some ⟨b, 0, none⟩) n d)).heap[c]? = w.heap[c]? := fun c hc => setCell_other hc
 have e5 := ha.e5
 refine ⟨below_set hb ha.sb, (hk _ e5.1.symm).trans h.sc, ?_, (hk _ e5.2.1.symm).trans h.lb, (hk _ e5.2.2.1.symm).trans h.gb, (hk _ e5.2.2.2.1.symm).trans h.kb, own_keep ho (hk _ (hne _ (by simp [GA.Qn]))), own_keep h.lo (hk _ (ha.e1 _ (.inl rfl)).2.1), ?_⟩
 · obtain ⟨v, hv⟩ := h.sb
   have := setCell_at (v := .slice (some ⟨b, 0, none⟩) n d) (ad := ⟨a.sb, 0, none⟩) hv rfl
   exact this
 · exact ⟨h.gi.l, h.gi.n, own_keep h.gi.h (hk _ e5.2.2.2.2.symm), fun i p xs h1 h2 => own_keep (h.gi.r i p xs h1 h2) (hk _ (ha.e1 _ (.inr (List.mem_map_of_mem (List.mem_of_getElem? h1)))).2.1), h.gi.d, h.gi.a, h.gi.m⟩
end Go.Proofs.YtkbfcofifhngfaaGreat
namespace Go.Proofs.YtkbfcofifhngfaaGreat
open Go Tx Go.RowKit
def askG (D : SD) (j : Nat) (s : Gs) : Gs := (growF D (D.T.length + 1) j ⟨fun _ => false, s.load, s.G⟩).2
def asgIn (D : SD) (j : Nat) : Nat → Gs → Gs
 | 0, s => s
 | k + 1, s => askG D j (asgIn D j k s)
def asgF (D : SD) : Nat → Gs
 | 0 => ⟨fun _ => false, fun _ => 0, fun _ _ => 0⟩
 | j + 1 => asgIn D j (needP D j).toNat (asgF D j)
theorem unS_bd (s : Gs) : ∀ n, unS s n ≤ n
 | 0 => Nat.le_refl _
 | n + 1 => by rw [unS]; have := unS_bd s n; split <;> omega
theorem askG_ok {D : SD} {j : Nat} {s : Gs} (hj : j < D.su.toNat) (h : GOK D s) : GOK D (askG D j s) :=
 (grow_sp (D.T.length + 1) j ⟨fun _ => false, s.load, s.G⟩ hj ⟨h.nn, h.ld, h.tm, h.te⟩ (Nat.lt_succ_of_le (unS_bd _ _))).ok
theorem asgIn_ok {D : SD} {j : Nat} {s : Gs} (hj : j < D.su.toNat) (h : GOK D s) : ∀ k, GOK D (asgIn D j k s)
 | 0 => h
 | k + 1 => askG_ok hj (asgIn_ok hj h k)
theorem asgF_ok {D : SD} (hv : scOk D = true) : ∀ j, j ≤ D.su.toNat → GOK D (asgF D j)
 | 0, _ => ⟨fun _ _ _ _ => Int.le_refl _, fun t ht => (sumN_zero _).symm, fun t ht => (tea_at hv (by
  rw [List.getD_eq_getElem?_getD, List.getElem?_eq_getElem ht]; exact List.getElem_mem ht)).1, fun t ht i hi h => absurd (show (0 : Int) < 0 from h) (by decide)⟩
 | j + 1, hj => asgIn_ok (by omega) (asgF_ok hv j (by omega)) _
theorem tb_conv7 {su n : Nat} {D : List (Nat × Nat)} {p : Nat × Nat} {β : Nat → Nat} {w : World} {y : Nat} (hl : D.length < n) (hb : p.1 = β 7) (hc : p.2 = β 8) (h : (Blk.mix 2 n 1 [] (((rwV su n D).map SV.v).set ((D.length : Int).toNat * 1) (.os 7 8 su)) 36).ok β w y) :
 (Blk.mix 2 n 1 [] ((rwV su n (D ++ [p])).map SV.v) 36).ok (fun i => β (id i)) w y := by
 have e : (D.length : Int).toNat * 1 = D.length := by rw [Int.toNat_natCast]; exact Nat.mul_one _
 rw [e] at h
 simp only [Blk.ok, cs_v, cs_set] at h ⊢
 rw [← rwV_set p hl, hb, hc]
 exact h
theorem MV.dep {w0 : World} {n su : Nat} {S : List Value} {a : GA} {s : Gs} {w w2 : World} {Q : Nat → Prop} (h : MV w0 n su S a s w) (hQ : ∀ b, a.Qn b → Q b) (hc : Chg (fun b => ¬ (b < w0.heap.size ∨ Q b)) w w2) : MV w0 n su S a s w2 := by
 have hk : ∀ b, a.Qn b → w2.heap[b]? = w.heap[b]? := fun b hb => by
  obtain ⟨cs, ty, fr, h1⟩ := h.2.cells hb
  exact hc.same b (Array.getElem?_eq_some_iff.1 h1).1 fun hn => hn (.inr (hQ b hb))
 refine ⟨below_chg h.1 hc, ?_⟩
 obtain ⟨-, h⟩ := h
 refine ⟨(hk _ (by simp [GA.Qn])).trans h.sc, ?_, (hk _ (by simp [GA.Qn])).trans h.lb, (hk _ (by simp [GA.Qn])).trans h.gb, (hk _ (by simp [GA.Qn])).trans h.kb, own_keep h.lo (hk _ (.inl rfl)), ?_⟩
 · obtain ⟨v, hv⟩ := h.sb
   exact ⟨v, (hk _ (by simp [GA.Qn])).trans hv⟩
 · exact ⟨h.gi.l, h.gi.n, own_keep h.gi.h (hk _ (by simp [GA.Qn])), fun i p xs h1 h2 => own_keep (h.gi.r i p xs h1 h2) (hk _ (.inr (.inl (List.mem_map_of_mem (List.mem_of_getElem? h1))))), h.gi.d, h.gi.a, h.gi.m⟩
theorem MV.un {w0 : World} {n su b d : Nat} {S : List Value} {a : GA} {s : Gs} {w : World} (h : MV w0 n su S (a.at b d) s w) : MV w0 n su S a s w := ⟨h.1, h.2.sc, h.2.sb, h.2.lb, h.2.gb, h.2.kb, h.2.lo, h.2.gi⟩
theorem GA.Qn_Q {a : GA} {b d x : Nat} (h : a.Qn x) : (a.at b d).Q x := by
 rcases h with h | h | h | h | h | h | h | h
 · exact .inl (.inr (.inl h))
 · exact .inl (.inr (.inr h))
 · exact .inr (.inl h)
 · exact .inr (.inr (.inl h))
 · exact .inr (.inr (.inr (.inl h)))
 · exact .inr (.inr (.inr (.inr (.inl h))))
 · exact .inr (.inr (.inr (.inr (.inr (.inl h)))))
 · exact .inr (.inr (.inr (.inr (.inr (.inr h)))))
theorem frz_box {w : World} {b ty : Nat} {cs : Array Value} (h : w.heap[b]? = some (.cells cs ty (0, 0))) (o : Nat) : w.frozen? ⟨b, o, none⟩ = false := by
 simp [World.frozen?, h]
theorem mkB0 (n : Nat) : (tbB n fun _ => false) = (List.replicate n [Value.bool false]).flatten := by
 unfold tbB
 induction n with
 | zero => rfl
 | succ n ih => rw [List.range_succ, List.map_append, ih, List.replicate_succ', List.flatten_append]; rfl
theorem rd_one {w : World} {b ty : Nat} {x : Int} (h : w.heap[b]? = some (.cells #[iv x] ty (0, 0))) : Rd 1 iF (.slice (some ⟨b, 0, none⟩) [x].length 1) [x] w :=
 .inr ⟨⟨b, 0, none⟩, 1, rfl, fun k y hk j v hv => by
  match k, hk with
  | 0, hk =>
   have hk : some x = some y := hk
   cases hk
   match j, hv with
   | 0, hv =>
    have hv : some (iv x) = some v := hv
    cases hv
    rw [own_add, own_add]
    simp [World.cell?, h]⟩
theorem assign_ok (s : Sc) (w : World) (h : ScIn s w) (hB : ScB s) (hv : scOk s.d = true) :
 Calls Tryz.prog 86 #[s.v] w fun e w' => ∃ y : {y : TbG // y.D.length = s.su.toNat}, e = .returned y.1.v ∧ Below w.heap.size w w' ∧ St w.heap.size (TbIn w.heap.size s.T.length y.1 (mkC s.su.toNat s.T.length (asgF s.d s.su.toNat).G)) w' := by
 have h93 := fun (l : List Int) (o : Option Addr) (c : Nat) (hs : subIn s.d l) (w' : World) (hw : Below w.heap.size w w') (hr : Rd 1 iF (.slice o l.length c) l w') => hours_ok s l o c w' (h.below hw) hv hr hs
 have hgr := fun (su : Nat) (hsu : s.su = su) (a : GA) (ha : a.Ok w.heap.size) => grow_ok s su hsu w a ha h hB hv
 have hok0 := asgF_ok hv
 have hv0 := hv
 obtain ⟨hv1, hv2, hv3, hv4, hv5, hv6, hv7⟩ := scOk_iff.1 hv
 obtain ⟨sl, ro, su, go, gc, G, to, tc, T⟩ := s
 dsimp only [Sc.d] at hv0 hv1 hv2 hv3 hv4 hv5 hv6 hv7 h93 hgr hok0 ⊢
 obtain ⟨su, rfl⟩ := Int.eq_ofNat_of_zero_le (show 0 ≤ su by omega)
 simp only [Int.toNat_natCast, List.length_map] at hv4 hv5 hok0 h93 ⊢
 have hgr := hgr su rfl
 refine calls_fam env mixed Tryz.func86 has86 Tryz.ntmps86 [.agg #[iv sl, iv ro, iv su, .slice go G.length gc, .slice to T.length tc]] (by simp) ?_
 repeat'
  conv => whnf
  first
   |refine zA ?_|refine zB ?_|refine zC ?_
   |refine mkO env 1 su (rwV T.length su []) rfl rfl rfl (by decide) rfl (by omega) (by decide) (rwV_nil _ _) rfl ?_
   |refine mkO env 3 T.length (tbV T.length fun _ => 0) rfl rfl rfl (by decide) rfl (by omega) (by decide) (mk0 _) rfl ?_
 refine loopD 7 (fun D : List (Nat × Nat) => [(1, .ptr 0 0), (3, .ptr 5 0), (4, .ptr 6 0), (16, .os 1 2 su), (17, .v (iv su)), (18, .v (iv D.length))]) (fun D => [(0, .cells [.v (iv sl), .v (iv ro), .v (iv su), .v (.slice go G.length gc), .v (.slice to T.length tc)] 34), (1, .mix 2 su 1 [] ((rwV T.length su D).map .v) 36), (3, .own 4 T.length 1 (tbV T.length fun _ => 0) 3), (5, .cells [.os 1 2 su] 22), (6, .cells [.os 3 4 T.length] 36)])
  (fun (D : List (Nat × Nat)) w' => Below w.heap.size w w' ∧ ∀ p ∈ D, w.heap.size ≤ p.1 ∧ w'.ownsRow 0 3 1 (.slice (some ⟨p.1, 0, none⟩) T.length p.2) T.length (tbV T.length fun _ => 0)) (fun D => D.length ≤ su ∧ (D.map Prod.fst).Nodup) (fun D => su - D.length)
  (Dis.mk3 (w0 := w) id [] rfl (fun i hi => by cases hi) (fun w' h => h) (fun β w1 hok hw1 hge => ⟨[], ⟨Nat.zero_le _, List.nodup_nil⟩, ⟨⟨_, rfl, rfl⟩, ⟨_, rfl, rfl⟩, ⟨_, rfl, rfl⟩, ⟨_, rfl, rfl⟩, ⟨_, rfl, rfl⟩, ⟨_, rfl, rfl⟩, trivial⟩, ⟨⟨rfl, _, rfl, fun _ => rfl, fun w2 y hy => hy⟩, ⟨rfl, _, rfl, fun _ => rfl, fun w2 y hy => by simp only [Blk.ok, cs_v] at hy ⊢; exact hy⟩, ⟨rfl, _, rfl, fun _ => rfl, fun w2 y hy => hy⟩, ⟨rfl, _, rfl, fun _ => rfl, fun w2 y hy => hy⟩, ⟨rfl, _, rfl, fun _ => rfl, fun w2 y hy => hy⟩, trivial⟩, rfl, fun w2 hw2 _ => ⟨hw2, fun a hr => by cases hr⟩⟩))
  (fun D hD => ⟨rfl, by simp only [mB, Blk.lt, lts_v]; rfl⟩) ?_
 intro D ⟨hD, hDn⟩
 rcases Nat.lt_or_ge D.length su with hkl | hkl
 · have hVl := rwV_len (su := T.length) (n := su) hD
   repeat'
    conv => whnf
    first
     |refine zA ?_|refine zB ?_|refine zF ?_|refine zG ?_
     |(refine splD ?_ ?_ <;> intro hc <;> first|(exfalso; omega)|skip)
     |refine mkO env 7 T.length (tbV T.length fun _ => 0) rfl rfl rfl (by decide) rfl (by omega) (by decide) (mk0 _) rfl ?_
     |refine Tx.stM env (.os 7 8 T.length) rfl rfl rfl rfl rfl rfl rfl (by rw [List.length_map, hVl, Int.toNat_natCast]; show D.length * 1 < _; omega) rfl rfl (lts_v _ _) rfl ?_
   refine Dis.mk5 (w0 := w) id [7] trivial (fun i hi => by rw [List.mem_singleton] at hi; subst hi; exact ⟨_, rfl, rfl⟩) (fun w' h => h.1) (fun β w1 hok hw1 hge hout hne => ⟨D ++ [(β 7, β 8)], ⟨⟨by simp; omega, ?_⟩, by simp; omega⟩, ⟨⟨_, rfl, rfl⟩, ⟨_, rfl, rfl⟩, ⟨_, rfl, rfl⟩, ⟨_, rfl, rfl⟩, ⟨_, rfl, rfl⟩, ⟨_, rfl, by rw [List.length_append, Int.natCast_add]; rfl⟩, trivial⟩, ⟨⟨rfl, _, rfl, fun _ => rfl, fun w2 y hy => hy⟩, ⟨rfl, _, rfl, fun _ => rfl, fun w2 y hy => tb_conv7 hkl rfl rfl hy⟩, ⟨rfl, _, rfl, fun _ => rfl, fun w2 y hy => hy⟩, ⟨rfl, _, rfl, fun _ => rfl, fun w2 y hy => hy⟩, ⟨rfl, _, rfl, fun _ => rfl, fun w2 y hy => hy⟩, trivial⟩, rfl, fun w2 hw2 hLo => ⟨hw2.1, fun p hp => ?_⟩⟩)
   · rw [List.map_append, List.nodup_append]
     refine ⟨hDn, by simp, fun a ha b hb => ?_⟩
     simp only [List.map_cons, List.map_nil, List.mem_singleton] at hb
     subst hb
     obtain ⟨p, hp, rfl⟩ := List.mem_map.1 ha
     exact fun e => hout 7 _ p.1 rfl rfl (fun w3 hw3 => by obtain ⟨cur, hc⟩ := own_heap (hw3.2 p hp).2; exact ⟨_, _, _, hc⟩) e.symm
   · rcases List.mem_append.1 hp with hp | hp
     · exact hw2.2 p hp
     · rw [List.mem_singleton] at hp
       subst hp
       exact ⟨hge 7 _ rfl rfl, hLo 7 (by simp) _ rfl⟩
 · have hDl : D.length = su := by omega
   repeat'
    conv => whnf
    first
     |refine zC ?_
     |(refine splD ?_ ?_ <;> intro hc <;> first|(exfalso; omega)|skip)
   refine loopD 0 (fun x : GA × Nat => [(1, .v (pt x.1.sc)), (3, .v (pt x.1.gb)), (4, .v (pt x.1.lb)), (6, .v (pt x.1.sb)), (7, .v (pt x.1.kb)), (31, .v (iv su)), (32, .v (iv x.2))]) (fun _ => []) (fun x w' => MV w T.length su [iv sl, iv ro, iv su, .slice go G.length gc, .slice to T.length tc] x.1 (asgF (⟨sl, ro, (su : Int), G.map Rw.xs, T.map Tc.d⟩ : SD) x.2) w') (fun x => x.1.OkN w.heap.size ∧ x.1.y.D.length = su ∧ x.2 ≤ su) (fun x => su - x.2)
    (Dis.mk5 (w0 := w) id [0, 1, 3, 5, 6, 7, 8] trivial (fun i hi => by simp only [List.mem_cons, List.not_mem_nil, or_false] at hi; rcases hi with rfl | rfl | rfl | rfl | rfl | rfl | rfl <;> exact ⟨_, rfl, rfl⟩) (fun w' h => h.1) (fun β w1 hok hw1 hge hout hne => ⟨(⟨β 0, β 7, β 6, β 5, β 8, 0, 0, β 3, β 4, ⟨β 1, β 2, D⟩⟩, 0), ⟨?_, hDl, Nat.zero_le _⟩, ⟨⟨_, rfl, rfl⟩, ⟨_, rfl, rfl⟩, ⟨_, rfl, rfl⟩, ⟨_, rfl, rfl⟩, ⟨_, rfl, rfl⟩, ⟨_, rfl, rfl⟩, ⟨_, rfl, rfl⟩, trivial⟩, trivial, rfl, fun w2 hw2 hLo => ?_⟩))
    (fun x hx => ⟨rfl, rfl⟩) ?_
   · have hrw : ∀ i bk, lk (_ : List (Nat × Blk)) i = some bk → bk.live = true → ∀ b ∈ D.map Prod.fst, β i ≠ b := fun i bk hi hl b hb => by
      obtain ⟨p, hp, rfl⟩ := List.mem_map.1 hb
      exact hout i bk p.1 hi hl (fun w3 hw3 => by obtain ⟨cur, hc⟩ := own_heap (hw3.2 p hp).2; exact ⟨_, _, _, hc⟩)
     have r0 := hrw 0 _ rfl rfl
     have r1 := hrw 1 _ rfl rfl
     have r3 := hrw 3 _ rfl rfl
     have r5 := hrw 5 _ rfl rfl
     have r6 := hrw 6 _ rfl rfl
     have r7 := hrw 7 _ rfl rfl
     have r8 := hrw 8 _ rfl rfl
     refine ⟨hge 0 _ rfl rfl, hge 7 _ rfl rfl, hge 6 _ rfl rfl, hge 5 _ rfl rfl, hge 8 _ rfl rfl, hge 3 _ rfl rfl, fun b hb => ?_, fun hb => r3 _ hb rfl, ⟨hne 7 0 _ _ rfl rfl rfl rfl (by decide), hne 7 6 _ _ rfl rfl rfl rfl (by decide), hne 7 5 _ _ rfl rfl rfl rfl (by decide), hne 7 8 _ _ rfl rfl rfl rfl (by decide), hne 7 1 _ _ rfl rfl rfl rfl (by decide)⟩⟩
     rcases hb with rfl | hb
     · exact ⟨hne 3 0 _ _ rfl rfl rfl rfl (by decide), hne 3 7 _ _ rfl rfl rfl rfl (by decide), hne 3 6 _ _ rfl rfl rfl rfl (by decide), hne 3 5 _ _ rfl rfl rfl rfl (by decide), hne 3 8 _ _ rfl rfl rfl rfl (by decide), hne 3 1 _ _ rfl rfl rfl rfl (by decide)⟩
     · exact ⟨fun e => r0 b hb e.symm, fun e => r7 b hb e.symm, fun e => r6 b hb e.symm, fun e => r5 b hb e.symm, fun e => r8 b hb e.symm, fun e => r1 b hb e.symm⟩
   · have h1 : w2.ownsRow 0 36 1 (.slice (some ⟨β 1, 0, none⟩) su (β 2)) su (rwV T.length su D) := by
      have := hLo 1 (by simp) _ rfl
      simpa [Blk.ok, cs_v] using this
     have e1 : rwV T.length su D = D.map fun p => .slice (some ⟨p.1, 0, none⟩) T.length p.2 := by simp [rwV, hDl]
     have h3 : w2.ownsRow 0 3 1 (.slice (some ⟨β 3, 0, none⟩) T.length (β 4)) T.length (tbV T.length fun _ => 0) := hLo 3 (by simp) _ rfl
     refine ⟨hw2.1, hLo 0 (by simp) _ rfl, ⟨_, hLo 7 (by simp) _ rfl⟩, hLo 6 (by simp) _ rfl, hLo 5 (by simp) _ rfl, hLo 8 (by simp) _ rfl, h3, ?_⟩
     refine ⟨by rw [mkC_len]; exact hDl.symm, fun r hr => ?_, by dsimp only; rw [hDl, ← e1]; exact h1, fun i p xs h2 h3 => ?_, hDn, fun p hp => ⟨(hw2.2 p hp).1, fun e => ?_⟩, hge 1 _ rfl rfl⟩
     · obtain ⟨i, _, rfl⟩ := List.mem_map.1 hr
       exact mkR_len _ _
     · have h2 : D[i]? = some p := h2
       have hi : i < su := by have := (List.getElem?_eq_some_iff.1 h2).1; omega
       rw [mkC_at _ hi, Option.some.injEq] at h3
       subst h3
       rw [mkR_fm]
       exact (hw2.2 p (List.mem_of_getElem? h2)).2
     · exact hout 1 _ p.1 rfl rfl (fun w3 hw3 => by obtain ⟨cur, hc⟩ := own_heap (hw3.2 p hp).2; exact ⟨_, _, _, hc⟩) e.symm
   · rintro ⟨a, j⟩ ⟨ha, hyl, hj⟩
     dsimp only at ha hyl hj ⊢
     have eS : ∀ (c : Gs) w', (MV w T.length su [iv sl, iv ro, iv su, .slice go G.length gc, .slice to T.length tc] a c w') → ∀ (q : Nat) (z : Value), [iv sl, iv ro, iv su, .slice go G.length gc, .slice to T.length tc][q]? = some z → w'.cell? ((⟨a.sc, 0, none⟩ : Addr).add q) = some z := fun c w' hw' => box_at0 hw'.2.sc _ (fun q z hq => hq)
     have eT : ∀ (c : Gs) w', (MV w T.length su [iv sl, iv ro, iv su, .slice go G.length gc, .slice to T.length tc] a c w') → ∀ (q : Nat) (z : Value), [Value.slice to T.length tc][q]? = some z → w'.cell? (((⟨a.sc, 0, none⟩ : Addr).add 4).add q) = some z := fun c w' hw' => box_at hw'.2.sc 4 _ (fun q z hq => match q, hq with | 0, hq => hq)
     have eGB : ∀ (c : Gs) w', (MV w T.length su [iv sl, iv ro, iv su, .slice go G.length gc, .slice to T.length tc] a c w') → ∀ (q : Nat) (z : Value), [Value.slice (some ⟨a.y.o, 0, none⟩) su a.y.c][q]? = some z → w'.cell? ((⟨a.gb, 0, none⟩ : Addr).add q) = some z := fun c w' hw' => box_at0 hw'.2.gb _ (fun q z hq => hq)
     rcases Nat.lt_or_ge j su with hjl | hjl
     · have hsub : subIn (⟨sl, ro, (su : Int), G.map Rw.xs, T.map Tc.d⟩ : SD) [(j : Int)] := ⟨by simp, fun x hx => by
        rw [List.mem_singleton] at hx; subst hx; dsimp only; omega⟩
       have h93j := fun (b : Nat) (w' : World) (hw : Below w.heap.size w w') (hb : w'.heap[b]? = some (.cells #[iv (j : Int)] 3 (0, 0))) => h93 [(j : Int)] (some ⟨b, 0, none⟩) 1 hsub w' hw (rd_one hb)
       rw [needP_one] at h93j
       have hnb : 0 ≤ needP (⟨sl, ro, (su : Int), G.map Rw.xs, T.map Tc.d⟩ : SD) j ∧ needP (⟨sl, ro, (su : Int), G.map Rw.xs, T.map Tc.d⟩ : SD) j ≤ 10000 := by
        rw [← needP_one]
        have := sum_b (f := rowH [(j : Int)]) (M := 200) (G.map Rw.xs) (fun g hg => rowH_bd hv0 hg [(j : Int)] (by simp))
        rw [List.length_map] at this
        show 0 ≤ ((G.map Rw.xs).map (rowH [(j : Int)])).sum ∧ ((G.map Rw.xs).map (rowH [(j : Int)])).sum ≤ 10000
        omega
       have hasg : asgF (⟨sl, ro, (su : Int), G.map Rw.xs, T.map Tc.d⟩ : SD) (j + 1) = asgIn (⟨sl, ro, (su : Int), G.map Rw.xs, T.map Tc.d⟩ : SD) j (needP (⟨sl, ro, (su : Int), G.map Rw.xs, T.map Tc.d⟩ : SD) j).toNat (asgF (⟨sl, ro, (su : Int), G.map Rw.xs, T.map Tc.d⟩ : SD) j) := rfl
       obtain ⟨kn, hkn⟩ := Int.eq_ofNat_of_zero_le hnb.1
       rw [hkn] at h93j hnb
       rw [hkn, Int.toNat_natCast] at hasg
       have hokj := hok0 j (by omega)
       repeat'
        conv => whnf
        first
         |refine zB ?_|refine zD ?_
         |(refine splD ?_ ?_ <;> intro hc <;> first|(exfalso; omega)|skip)
         |refine eL [iv sl, iv ro, iv su, .slice go G.length gc, .slice to T.length tc] ⟨⟨rfl, fun w' hw' => eS _ w' hw'⟩, ?_⟩
         |((with_reducible show CallEv _ _ 93 ..); refine callM [0] (fun β w' hbk hbw => h93j _ _ (by repeat (first | exact hbw | replace hbw := hbw.1)) (hbk 0 (by simp) _ rfl)) ?_)
       refine loopH 0 (fun k : Nat => [(1, .v (pt a.sc)), (3, .v (pt a.gb)), (4, .v (pt a.lb)), (6, .v (pt a.sb)), (7, .v (pt a.kb)), (8, .v (iv j)), (31, .v (iv su)), (32, .v (iv j)), (38, .v (iv kn)), (39, .v (iv k))]) (fun _ => []) (fun k w' => MV w T.length su [iv sl, iv ro, iv su, .slice go G.length gc, .slice to T.length tc] a (asgIn (⟨sl, ro, (su : Int), G.map Rw.xs, T.map Tc.d⟩ : SD) j k (asgF (⟨sl, ro, (su : Int), G.map Rw.xs, T.map Tc.d⟩ : SD) j)) w') (fun k => k ≤ kn) (fun k => kn - k) 0 (Nat.zero_le _) ⟨rfl, rfl, rfl, rfl, rfl, rfl, rfl, rfl, rfl, rfl, trivial⟩ trivial (fun _ h => h) (fun _ _ => ⟨rfl, rfl⟩) ?_
       intro k hk
       have hokk := asgIn_ok (D := (⟨sl, ro, (su : Int), G.map Rw.xs, T.map Tc.d⟩ : SD)) (j := j) (by dsimp only; omega) hokj k
       have hstep : asgIn (⟨sl, ro, (su : Int), G.map Rw.xs, T.map Tc.d⟩ : SD) j (k + 1) (asgF (⟨sl, ro, (su : Int), G.map Rw.xs, T.map Tc.d⟩ : SD) j) = askG (⟨sl, ro, (su : Int), G.map Rw.xs, T.map Tc.d⟩ : SD) j (asgIn (⟨sl, ro, (su : Int), G.map Rw.xs, T.map Tc.d⟩ : SD) j k (asgF (⟨sl, ro, (su : Int), G.map Rw.xs, T.map Tc.d⟩ : SD) j)) := rfl
       have hDl3 : (⟨sl, ro, (su : Int), G.map Rw.xs, T.map Tc.d⟩ : SD).T.length = T.length := by simp
       rcases Nat.lt_or_ge k kn with hkl2 | hkl2
       · generalize hc : asgIn (⟨sl, ro, (su : Int), G.map Rw.xs, T.map Tc.d⟩ : SD) j k (asgF (⟨sl, ro, (su : Int), G.map Rw.xs, T.map Tc.d⟩ : SD) j) = c at *
         have hgrow := fun (a : GA) (ha : a.Ok w.heap.size) => hgr a ha (T.length + 1) ⟨fun _ => false, c.load, c.G⟩ j
         have hask : askG (⟨sl, ro, (su : Int), G.map Rw.xs, T.map Tc.d⟩ : SD) j c = (growF (⟨sl, ro, (su : Int), G.map Rw.xs, T.map Tc.d⟩ : SD) (T.length + 1) j ⟨fun _ => false, c.load, c.G⟩).2 := by unfold askG; rw [hDl3]
         generalize hr : growF (⟨sl, ro, (su : Int), G.map Rw.xs, T.map Tc.d⟩ : SD) (T.length + 1) j ⟨fun _ => false, c.load, c.G⟩ = r at *
         have hcall : ∀ (b d : Nat), (a.at b d).Ok w.heap.size → ∀ w', MW w T.length su [iv sl, iv ro, iv su, .slice go G.length gc, .slice to T.length tc] (a.at b d) ⟨fun _ => false, c.load, c.G⟩ w' → Calls Tryz.prog 126 #[iv j, pt a.sc, pt a.sb, pt a.lb, pt a.gb, pt a.kb] w' fun e w2 => e = .returned (.bool r.1) ∧ Chg (a.at b d).W w' w2 ∧ MV w T.length su [iv sl, iv ro, iv su, .slice go G.length gc, .slice to T.length tc] a r.2 w2 := fun b d hk w' hw' => by
          have h9 := hgrow (a.at b d) hk w' hjl ⟨hokk.nn, hokk.ld, hokk.tm, hokk.te⟩ (Nat.lt_succ_of_le (unS_bd _ _)) hw'
          exact h9.mono fun e w2 h => ⟨h.1, h.2.2, h.2.1.n.un⟩
         have hfrz : ∀ w', (MV w T.length su [iv sl, iv ro, iv su, .slice go G.length gc, .slice to T.length tc] a c w') → (∃ cs ty fr, w'.heap[(⟨a.sb, 0, none⟩ : Addr).block]? = some (.cells cs ty fr) ∧ (⟨a.sb, 0, none⟩ : Addr).off < cs.size) ∧ w'.frozen? ⟨a.sb, 0, none⟩ = false := fun w' hw' => by
          obtain ⟨v, hv⟩ := hw'.2.sb
          exact ⟨⟨_, _, _, hv, by show 0 < 1; decide⟩, frz_box hv 0⟩
         have hask2 : ∀ (w' : World) (b d : Nat), MV w T.length su [iv sl, iv ro, iv su, .slice go G.length gc, .slice to T.length tc] a c w' → w.heap.size ≤ b → (∀ x, (∀ w', MV w T.length su [iv sl, iv ro, iv su, .slice go G.length gc, .slice to T.length tc] a c w' → ∃ cs ty fr, w'.heap[x]? = some (.cells cs ty fr)) → b ≠ x) → w'.ownsRow 0 4 1 (.slice (some ⟨b, 0, none⟩) T.length d) T.length (tbB T.length fun _ => false) → MW w T.length su [iv sl, iv ro, iv su, .slice go G.length gc, .slice to T.length tc] (a.at b d) ⟨fun _ => false, c.load, c.G⟩ (w'.setCell ⟨a.sb, 0, none⟩ (.slice (some ⟨b, 0, none⟩) T.length d)) := fun w' b d hw' hb hne ho => hw'.ask ha (fun x hx => hne x fun w2 hw2 => hw2.2.cells hx) ho
         repeat'
          conv => whnf
          first
           |refine zB ?_|refine zD ?_|refine zF ?_
           |(refine splD ?_ ?_ <;> intro hc <;> first|(exfalso; omega)|skip)
           |refine eL [.slice to T.length tc] ⟨⟨rfl, fun w' hw' => eT _ w' hw'⟩, ?_⟩
           |refine mkO env 0 T.length (tbB T.length fun _ => false) rfl rfl rfl (by decide) rfl (by omega) (by decide) (mkB0 _) rfl ?_
           |refine stG env w [(1, .v (pt a.sc)), (3, .v (pt a.gb)), (4, .v (pt a.lb)), (6, .v (pt a.sb)), (7, .v (pt a.kb)), (8, .v (iv j)), (31, .v (iv su)), (32, .v (iv j)), (38, .v (iv kn)), (39, .v (iv k))] rfl rfl rfl rfl rfl rfl rfl ⟨rfl, rfl, rfl, rfl, rfl, rfl, rfl, rfl, rfl, rfl, trivial⟩ (fun w' h => h.1) (fun b d w' => MW w T.length su [iv sl, iv ro, iv su, .slice go G.length gc, .slice to T.length tc] (a.at b d) ⟨fun _ => false, c.load, c.G⟩ w') hfrz hask2 ?_; intro b d hge hne
           |refine eL [a.fn] ⟨⟨rfl, fun w' hw' => box_at0 hw'.2.kb _ (fun q z hq => hq)⟩, ?_⟩
           |((with_reducible show CallEv _ _ 126 ..); refine callFW (.bool r.1) w (fun x => x < w.heap.size) (a.at b d).Q (a.at b d).W (fun w' => MV w T.length su [iv sl, iv ro, iv su, .slice go G.length gc, .slice to T.length tc] a r.2 w') (fun β w' hw' => hcall b d (ha.at hge fun c hc => hne c fun w2 hw2 => hw2.2.cells hc) w' hw') (fun w' hw' x hx => ⟨Nat.lt_of_lt_of_le hx hw'.1.size, hw'.1.block x hx⟩) (fun x hx => .inl hx) (fun x hx w' hw' => hw'.2.cells hx) (fun w' w2 hw' hc => hw'.dep (fun x hx => GA.Qn_Q hx) hc) ?_)
         all_goals exact ⟨k + 1, by omega, by omega, Ent.weak rfl ⟨rfl, rfl, rfl, rfl, rfl, rfl, rfl, rfl, rfl, rfl, trivial⟩ trivial fun w2 h => by rw [hstep, hask]; exact h⟩
       · obtain rfl : k = kn := by omega
         rw [← hasg]
         repeat'
          conv => whnf
          first
           |refine zF ?_
           |(refine splD ?_ ?_ <;> intro hc <;> first|(exfalso; omega)|skip)
         all_goals exact Dis.ent (x := (a, j + 1)) ⟨⟨ha, hyl, by dsimp only; omega⟩, by dsimp only; omega⟩ (Ent.weak rfl ⟨rfl, rfl, rfl, rfl, rfl, rfl, rfl, trivial⟩ trivial fun _ h => h)
     · obtain rfl : j = su := by omega
       repeat'
        conv => whnf
        first
         |(refine splD ?_ ?_ <;> intro hc <;> first|(exfalso; omega)|skip)
         |refine eL [.slice (some ⟨a.y.o, 0, none⟩) j a.y.c] ⟨⟨rfl, fun w' hw' => eGB _ w' hw'⟩, ?_⟩
       all_goals exact ⟨fun w' h => h.1, fun β w' hB hblk => ⟨⟨a.y, hyl⟩, by show Value.slice _ _ _ = Value.slice _ _ _; rw [hyl], hB.2.gi.st⟩⟩
end Go.Proofs.YtkbfcofifhngfaaGreat
namespace Go.Proofs.YtkbfcofifhngfaaGreat
open Go
theorem askG_row {D : SD} (hv : scOk D = true) (hno : ∀ m, 1 ≤ m → m ≤ 2 ^ D.su.toNat - 1 → unB D (memL m 6) = false) {j : Nat} {s : Gs} (hj : j < D.su.toNat) (h : GOK D s) (hrow : ∀ i, i < D.su.toNat → sumN (s.G i) D.T.length ≤ needP D i) (hlt : sumN (s.G j) D.T.length < needP D j) :
 ∀ i, sumN ((askG D j s).G i) D.T.length = sumN (s.G i) D.T.length + if i = j then 1 else 0 := by
 have hok : GOK D ⟨fun _ => false, s.load, s.G⟩ := ⟨h.nn, h.ld, h.tm, h.te⟩
 have hun : unS ⟨fun _ => false, s.load, s.G⟩ D.T.length < D.T.length + 1 := Nat.lt_succ_of_le (unS_bd _ _)
 cases hr : (growF D (D.T.length + 1) j ⟨fun _ => false, s.load, s.G⟩).1 with
 | true => exact (grow_sp (D.T.length + 1) j ⟨fun _ => false, s.load, s.G⟩ hj hok hun).row hr
 | false =>
  obtain ⟨m, h1, h2, h3⟩ := grow_hall hv hj hok hun (fun _ => rfl) hrow hlt hr
  rw [hno m h1 h2] at h3; cases h3
theorem asgIn_row {D : SD} (hv : scOk D = true) (hno : ∀ m, 1 ≤ m → m ≤ 2 ^ D.su.toNat - 1 → unB D (memL m 6) = false) {j : Nat} {s : Gs} (hj : j < D.su.toNat) (h : GOK D s) (hrow : ∀ i, i < D.su.toNat → sumN (s.G i) D.T.length ≤ needP D i) :
 ∀ k : Nat, sumN (s.G j) D.T.length + k ≤ needP D j → ∀ i, sumN ((asgIn D j k s).G i) D.T.length = sumN (s.G i) D.T.length + if i = j then (k : Int) else 0
 | 0, _, i => by rw [asgIn]; split <;> simp
 | k + 1, hk, i => by
  have ih := asgIn_row hv hno hj h hrow k (by omega)
  have hok := asgIn_ok hj h k
  have := askG_row hv hno hj hok (fun i hi => by
   rw [ih i]
   have := hrow i hi
   split
   · rename_i e; subst e; omega
   · omega) (by rw [ih j, if_pos rfl]; omega) i
  rw [asgIn, this, ih i]
  split <;> omega
theorem asgF_row {D : SD} (hv : scOk D = true) (hnn : ∀ i, 0 ≤ needP D i) (hno : ∀ m, 1 ≤ m → m ≤ 2 ^ D.su.toNat - 1 → unB D (memL m 6) = false) :
 ∀ j, j ≤ D.su.toNat → ∀ i, sumN ((asgF D j).G i) D.T.length = if i < j then needP D i else 0
 | 0, _, i => by rw [if_neg (by omega)]; exact sumN_zero _
 | j + 1, hj, i => by
  have ih := asgF_row hv hnn hno j (by omega)
  have := asgIn_row hv hno (j := j) (by omega) (asgF_ok hv j (by omega)) (fun i hi => by rw [ih i]; have := hnn i; split <;> omega) (needP D j).toNat (by rw [ih j, if_neg (by omega)]; have := hnn j; omega) i
  rw [asgF, this, ih i]
  have := hnn j
  by_cases h1 : i = j
  · subst h1; rw [if_neg (by omega), if_pos rfl, if_pos (by omega)]; omega
  · rw [if_neg h1]
    by_cases h2 : i < j
    · rw [if_pos h2, if_pos (by omega)]; omega
    · rw [if_neg h2, if_neg (by omega)]; omega
def rowP (D : SD) (g i : Nat) : Int := (D.G.getD g []).getD i 0
def remG (D : SD) (g i : Nat) : Int := ((D.G.drop g).map fun r => r.getD i 0).sum
theorem remG_step (D : SD) (g i : Nat) : remG D g i = rowP D g i + remG D (g + 1) i := by
 unfold remG rowP
 by_cases h : g < D.G.length
 · have e : D.G.getD g [] = D.G[g] := by rw [List.getD_eq_getElem?_getD, List.getElem?_eq_getElem h]; rfl
   rw [e, List.drop_eq_getElem_cons h, List.map_cons, List.sum_cons]
 · have e : D.G.getD g [] = [] := by rw [List.getD_eq_getElem?_getD, List.getElem?_eq_none (by omega)]; rfl
   rw [e, List.drop_eq_nil_of_le (by omega), List.drop_eq_nil_of_le (by omega)]; rfl
theorem remG_zero (D : SD) (i : Nat) : remG D 0 i = needP D i := rfl
def b1 (b : Bool) : Int := bif b then 1 else 0
def cUT (L : List Ln) (i t : Nat) : Int := (L.map fun x => b1 (decide (x.j = (i : Int) ∧ x.t = (t : Int)))).sum
def cGU (L : List Ln) (g i : Nat) : Int := (L.map fun x => b1 (decide (x.g = (g : Int) ∧ x.j = (i : Int)))).sum
def remI (D : SD) (g i h i' : Nat) : Int := remG D (g + 1) i' + (if i' < i then 0 else if i' = i then rowP D g i - h else rowP D g i')
def doneI (D : SD) (g i h g' i' : Nat) : Int := if g' < g then rowP D g' i' else if g' = g then (if i' < i then rowP D g i' else if i' = i then h else 0) else 0
structure AInv (D : SD) (G0 : Nat → Nat → Int) (g i h : Nat) (G : Nat → Nat → Int) (L : List Ln) : Prop where
 nn : ∀ i', i' < D.su.toNat → ∀ t, t < D.T.length → 0 ≤ G i' t
 sum : ∀ i', i' < D.su.toNat → sumN (G i') D.T.length = remI D g i h i'
 use : ∀ i', i' < D.su.toNat → ∀ t, t < D.T.length → G i' t + cUT L i' t = G0 i' t
 cnt : ∀ g', g' < D.G.length → ∀ i', i' < D.su.toNat → cGU L g' i' = doneI D g i h g' i'
 rng : ∀ x ∈ L, ∃ a b t : Nat, x = ⟨a, b, t⟩ ∧ a < D.G.length ∧ b < D.su.toNat ∧ t < D.T.length ∧ teachB D t b = true
 len : (L.length : Int) + sumN (fun i' => sumN (G i') D.T.length) D.su.toNat ≤ 320
theorem cUT_snoc (L : List Ln) (x : Ln) (i t : Nat) : cUT (L ++ [x]) i t = cUT L i t + b1 (decide (x.j = (i : Int) ∧ x.t = (t : Int))) := by
 unfold cUT; rw [List.map_append, List.sum_append]; simp
theorem cGU_snoc (L : List Ln) (x : Ln) (g i : Nat) : cGU (L ++ [x]) g i = cGU L g i + b1 (decide (x.g = (g : Int) ∧ x.j = (i : Int))) := by
 unfold cGU; rw [List.map_append, List.sum_append]; simp
theorem b1_eq {p : Prop} [Decidable p] : b1 (decide p) = if p then 1 else 0 := by
 by_cases h : p
 · rw [decide_eq_true h, if_pos h]; rfl
 · rw [decide_eq_false h, if_neg h]; rfl
theorem cUT_nn : ∀ (L : List Ln) (i t : Nat), 0 ≤ cUT L i t
 | [], _, _ => Int.le_refl _
 | a :: l, i, t => by
  have ih := cUT_nn l i t
  have e : cUT (a :: l) i t = b1 (decide (a.j = (i : Int) ∧ a.t = (t : Int))) + cUT l i t := rfl
  rw [e, b1_eq]; split <;> omega
theorem AInv.step {D : SD} {G0 G : Nat → Nat → Int} {g i h p : Nat} {L : List Ln} (H : AInv D G0 g i h G L) (hg : g < D.G.length) (hi : i < D.su.toNat) (hp : p < D.T.length) (h0 : 0 < G i p) (hte : ∀ t, t < D.T.length → 0 < G0 i t → teachB D t i = true) :
 AInv D G0 g i (h + 1) (updG G i p (G i p - 1)) (L ++ [⟨g, i, p⟩]) := by
 have hsum : ∀ i', sumN (updG G i p (G i p - 1) i') D.T.length = sumN (G i') D.T.length + if i' = i then -1 else 0 := fun i' => by
  rw [sum_row_upd _ _ hp]; split <;> omega
 refine ⟨fun i' hi' t ht => ?_, fun i' hi' => ?_, fun i' hi' t ht => ?_, fun g' hg' i' hi' => ?_, fun x hx => ?_, ?_⟩
 · rw [updG_at]; split
   · omega
   · exact H.nn i' hi' t ht
 · rw [hsum, H.sum i' hi']
   unfold remI
   by_cases e : i' = i
   · subst e; simp; omega
   · simp [e]
 · rw [cUT_snoc, b1_eq, updG_at]
   have := H.use i' hi' t ht
   by_cases e : i' = i ∧ t = p
   · obtain ⟨rfl, rfl⟩ := e
     rw [if_pos ⟨rfl, rfl⟩, if_pos ⟨rfl, rfl⟩]; omega
   · rw [if_neg e, if_neg (fun e2 => e ⟨by have := e2.1; dsimp only at this; omega, by have := e2.2; dsimp only at this; omega⟩)]; omega
 · rw [cGU_snoc, b1_eq, H.cnt g' hg' i' hi']
   unfold doneI
   by_cases e1 : g' < g
   · rw [if_pos e1, if_pos e1, if_neg (fun e2 => by have := e2.1; dsimp only at this; omega)]; omega
   · rw [if_neg e1, if_neg e1]
     by_cases e2 : g' = g
     · subst e2
       rw [if_pos rfl, if_pos rfl]
       by_cases e3 : i' < i
       · rw [if_pos e3, if_pos e3, if_neg (fun e => by have := e.2; dsimp only at this; omega)]; omega
       · rw [if_neg e3, if_neg e3]
         by_cases e4 : i' = i
         · subst e4; rw [if_pos rfl, if_pos rfl, if_pos ⟨rfl, rfl⟩]; omega
         · rw [if_neg e4, if_neg e4, if_neg (fun e => by have := e.2; dsimp only at this; omega)]; rfl
     · rw [if_neg e2, if_neg e2, if_neg (fun e => by have := e.1; dsimp only at this; omega)]; rfl
 · rcases List.mem_append.1 hx with hx | hx
   · exact H.rng x hx
   · rw [List.mem_singleton] at hx
     subst hx
     refine ⟨g, i, p, rfl, hg, hi, hp, hte p hp ?_⟩
     have := H.use i hi p hp
     have hc := cUT_nn L i p
     omega
 · have hL := H.len
   rw [List.length_append, List.length_singleton]
   have e : sumN (fun i' => sumN (updG G i p (G i p - 1) i') D.T.length) D.su.toNat = sumN (fun i' => sumN (G i') D.T.length) D.su.toNat - 1 := by
    rw [sumN_congr (g := fun k => if k = i then sumN (G i) D.T.length - 1 else sumN (G k) D.T.length) (fun i' _ => by
     rw [hsum]; split
     · rename_i e; subst e; omega
     · omega), sumN_upd (f := fun k => sumN (G k) D.T.length) hi]; omega
   rw [e]; omega
theorem AInv.nexti {D : SD} {G0 G : Nat → Nat → Int} {g i h : Nat} {L : List Ln} (H : AInv D G0 g i h G L) (hh : (h : Int) = rowP D g i) : AInv D G0 g (i + 1) 0 G L := by
 refine ⟨H.nn, fun i' hi' => ?_, H.use, fun g' hg' i' hi' => ?_, H.rng, H.len⟩
 · rw [H.sum i' hi']
   unfold remI
   congr 1
   by_cases e1 : i' < i
   · rw [if_pos e1, if_pos (by omega)]
   · rw [if_neg e1]
     by_cases e2 : i' = i
     · subst e2; rw [if_pos rfl, if_pos (by omega)]; omega
     · rw [if_neg e2, if_neg (by omega)]
       split
       · rename_i e; subst e; simp
       · rfl
 · rw [H.cnt g' hg' i' hi']
   unfold doneI
   split
   · rfl
   · split
     · by_cases e1 : i' < i
       · rw [if_pos e1, if_pos (by omega)]
       · rw [if_neg e1]
         by_cases e2 : i' = i
         · subst e2; rw [if_pos rfl, if_pos (by omega), hh]
         · rw [if_neg e2, if_neg (by omega)]; split <;> rfl
     · rfl
theorem AInv.nextg {D : SD} {G0 G : Nat → Nat → Int} {g h : Nat} {L : List Ln} (H : AInv D G0 g D.su.toNat h G L) : AInv D G0 (g + 1) 0 0 G L := by
 refine ⟨H.nn, fun i' hi' => ?_, H.use, fun g' hg' i' hi' => ?_, H.rng, H.len⟩
 · rw [H.sum i' hi']
   unfold remI
   rw [if_pos hi', if_neg (by omega), remG_step D (g + 1)]
   split
   · rename_i e; subst e; simp; omega
   · omega
 · rw [H.cnt g' hg' i' hi']
   unfold doneI
   by_cases e1 : g' < g
   · rw [if_pos e1, if_pos (by omega)]
   · rw [if_neg e1]
     by_cases e2 : g' = g
     · subst e2; rw [if_pos rfl, if_pos hi', if_pos (by omega)]
     · rw [if_neg e2, if_neg (by omega)]
       split
       · rw [if_neg (by omega)]; split <;> rfl
       · rfl
structure AllOK (D : SD) (L : List Ln) : Prop where
 cnt : ∀ g, g < D.G.length → ∀ i, i < D.su.toNat → cGU L g i = rowP D g i
 tea : ∀ t, t < D.T.length → cntT L t ≤ tmB D t
 rng : ∀ x ∈ L, ∃ a b t : Nat, x = ⟨a, b, t⟩ ∧ a < D.G.length ∧ b < D.su.toNat ∧ t < D.T.length ∧ teachB D t b = true
 len : L.length ≤ 320
theorem cntT_cUT {L : List Ln} {n : Nat} (h : ∀ x ∈ L, ∃ b : Nat, x.j = b ∧ b < n) (t : Nat) : cntT L t = sumN (fun i => cUT L i t) n := by
 induction L with
 | nil =>
  show (0 : Int) = _
  exact (sumN_zero n).symm
 | cons x l ih =>
  have e1 : cntT (x :: l) t = b1 (decide (x.t = (t : Int))) + cntT l t := rfl
  have e2 : ∀ i, cUT (x :: l) i t = b1 (decide (x.j = (i : Int) ∧ x.t = (t : Int))) + cUT l i t := fun i => rfl
  rw [e1, sumN_congr fun i _ => e2 i, sumN_add, ih fun y hy => h y (List.mem_cons_of_mem _ hy)]
  congr 1
  obtain ⟨b, hb, hbn⟩ := h x List.mem_cons_self
  rw [b1_eq]
  by_cases ht : x.t = (t : Int)
  · rw [if_pos ht]
    have : sumN (fun i => b1 (decide (x.j = (i : Int) ∧ x.t = (t : Int)))) n = sumN (fun k => if k = b then 1 else (fun _ : Nat => (0 : Int)) k) n := sumN_congr fun i _ => by
     rw [b1_eq]
     by_cases hi : i = b
     · subst hi; rw [if_pos ⟨hb, ht⟩, if_pos rfl]
     · rw [if_neg (fun e => hi (by have := e.1; omega)), if_neg hi]
    rw [this, sumN_upd hbn, sumN_zero]; omega
  · rw [if_neg ht]
    have : sumN (fun i => b1 (decide (x.j = (i : Int) ∧ x.t = (t : Int)))) n = sumN (fun _ => 0) n := sumN_congr fun i _ => by
     rw [b1_eq, if_neg (fun e => ht e.2)]
    rw [this, sumN_zero]
theorem AInv.all {D : SD} {G : Nat → Nat → Int} {L : List Ln} {s0 : Gs} (h0 : GOK D s0) (H : AInv D s0.G D.G.length 0 0 G L) : AllOK D L := by
 refine ⟨fun g hg i hi => ?_, fun t ht => ?_, H.rng, ?_⟩
 · rw [H.cnt g hg i hi]; unfold doneI; rw [if_pos hg]
 · rw [cntT_cUT (n := D.su.toNat) (fun x hx => by obtain ⟨a, b, t, rfl, _, hb, _⟩ := H.rng x hx; exact ⟨b, rfl, hb⟩)]
   have h1 := h0.ld t ht
   have h2 := h0.tm t ht
   have : sumN (fun i => cUT L i t) D.su.toNat ≤ sumN (fun i => s0.G i t) D.su.toNat := sumN_le fun i hi => by
    have := H.use i hi t ht
    have := H.nn i hi t ht
    omega
   omega
 · have := H.len
   have h2 : 0 ≤ sumN (fun i' => sumN (G i') D.T.length) D.su.toNat := sumN_nn fun i hi => sumN_nn fun t ht => H.nn i hi t ht
   omega
theorem AInv.start {D : SD} (hv : scOk D = true) {s0 : Gs} (h0 : GOK D s0) (hs : ∀ i, i < D.su.toNat → sumN (s0.G i) D.T.length = needP D i) : AInv D s0.G 0 0 0 s0.G [] := by
 refine ⟨fun i hi t ht => h0.nn t ht i hi, fun i hi => ?_, fun i hi t ht => by show _ + (0 : Int) = _; omega, fun g hg i hi => ?_, fun x hx => (by cases hx), ?_⟩
 · rw [hs i hi, ← remG_zero, remG_step]
   unfold remI
   rw [if_neg (by omega)]
   split
   · rename_i e; subst e; simp; omega
   · omega
 · show (0 : Int) = _
   unfold doneI
   rw [if_neg (by omega)]
   split
   · rw [if_neg (by omega)]; split <;> rfl
   · rfl
 · rw [sumN_swap]
   obtain ⟨-, -, -, -, hT, -, -⟩ := scOk_iff.1 hv
   have : sumN (fun t => sumN (fun i => s0.G i t) D.su.toNat) D.T.length ≤ sumN (fun _ => 40) D.T.length := sumN_le fun t ht => by
    rw [← h0.ld t ht]
    have h1 := h0.tm t ht
    have h2 := (tea_at hv (t := D.T.getD t ([], 0)) (by rw [List.getD_eq_getElem?_getD, List.getElem?_eq_getElem ht]; exact List.getElem_mem ht)).2.1
    unfold tmB at h1
    omega
   have h3 : ∀ n, sumN (fun _ => 40) n = 40 * n := fun n => by
    induction n with
    | zero => rfl
    | succ n ih => rw [sumN, ih]; omega
   rw [h3] at this
   show (0 : Int) + _ ≤ _
   omega
theorem some_pos {f : Nat → Int} : ∀ {n : Nat}, (∀ i, i < n → 0 ≤ f i) → 0 < sumN f n → ∃ i, i < n ∧ 0 < f i
 | 0, _, h => absurd h (by rw [sumN]; decide)
 | n + 1, hn, h => by
  rw [sumN] at h
  by_cases h1 : 0 < f n
  · exact ⟨n, by omega, h1⟩
  · obtain ⟨i, h2, h3⟩ := some_pos (f := f) (n := n) (fun i hi => hn i (by omega)) (by omega)
    exact ⟨i, by omega, h3⟩
end Go.Proofs.YtkbfcofifhngfaaGreat
namespace Go.Proofs.YtkbfcofifhngfaaGreat
open Go Tx Go.RowKit
theorem needP_nn {D : SD} (hv : scOk D = true) (i : Nat) : 0 ≤ needP D i := by
 rw [← needP_one]
 exact (sum_b (f := rowH [(i : Int)]) (M := 200) D.G (fun g hg => rowH_bd hv hg [(i : Int)] (by simp))).1
theorem TbIn.mono {m m' N : Nat} {y : TbG} {C : List (List Int)} {w : World} (h : TbIn m' N y C w) (hm : m ≤ m') : TbIn m N y C w :=
 ⟨h.l, h.n, h.h, h.r, h.d, fun p hp => ⟨Nat.le_trans hm (h.a p hp).1, (h.a p hp).2⟩, Nat.le_trans hm h.m⟩
theorem rowP_nn {D : SD} (hv : scOk D = true) (g i : Nat) : 0 ≤ rowP D g i := by
 unfold rowP
 by_cases hg : g < D.G.length
 · have e : D.G.getD g [] = D.G[g] := by rw [List.getD_eq_getElem?_getD, List.getElem?_eq_getElem hg]; rfl
   rw [e]
   have h1 := (grp_at hv (List.getElem_mem hg)).2
   by_cases hi : i < D.G[g].length
   · have e2 : D.G[g].getD i 0 = D.G[g][i] := by rw [List.getD_eq_getElem?_getD, List.getElem?_eq_getElem hi]; rfl
     rw [e2]; exact (h1 _ (List.getElem_mem hi)).1
   · rw [List.getD_eq_getElem?_getD, List.getElem?_eq_none (by omega)]; exact Int.le_refl _
 · have e : D.G.getD g [] = [] := by rw [List.getD_eq_getElem?_getD, List.getElem?_eq_none (by omega)]; rfl
   rw [e, List.getD_eq_getElem?_getD, List.getElem?_eq_none (by simp)]; exact Int.le_refl _
theorem remG_nn {D : SD} (h : ∀ g i : Nat, 0 ≤ rowP D g i) (g i : Nat) : 0 ≤ remG D g i := by
 have : ∀ n g, D.G.length ≤ g + n → 0 ≤ remG D g i := fun n => by
  induction n with
  | zero => intro g hg; unfold remG; rw [List.drop_eq_nil_of_le (by omega)]; exact Int.le_refl _
  | succ n ih => intro g hg; rw [remG_step]; have := ih (g + 1) (by omega); have := h g i; omega
 exact this D.G.length g (by omega)
theorem hbd {D : SD} {G : Nat → Nat → Int} {l : Nat} (nn : ∀ i', i' < D.su.toNat → ∀ t, t < D.T.length → 0 ≤ G i' t) (len : (l : Int) + sumN (fun i' => sumN (G i') D.T.length) D.su.toNat ≤ 320) (i t : Nat) (hi : i < D.su.toNat) (ht : t < D.T.length) : G i t ≤ 320 ∧ l ≤ 320 := by
 have h1 : G i t ≤ sumN (G i) D.T.length := sumN_ge (f := G i) (fun k hk => nn i hi k hk) ht
 have h2 : sumN (G i) D.T.length ≤ sumN (fun i' => sumN (G i') D.T.length) D.su.toNat := sumN_ge (f := fun i' => sumN (G i') D.T.length) (fun k hk => sumN_nn fun t ht => nn k hk t ht) hi
 have h3 : 0 ≤ sumN (fun i' => sumN (G i') D.T.length) D.su.toNat := sumN_nn fun k hk => sumN_nn fun t ht => nn k hk t ht
 have h4 := nn i hi t ht
 omega
structure AllF (D : SD) where
 o : Option Addr
 c : Nat
 L : List Ln
 h : AllOK D L
abbrev AllF.v {D : SD} (y : AllF D) : Value := .slice y.o y.L.length y.c
theorem all_ok (s : Sc) (w : World) (h : ScIn s w) (hB : ScB s) (hv : scOk s.d = true) (hno : ∀ m, 1 ≤ m → m ≤ 2 ^ s.d.su.toNat - 1 → unB s.d (memL m 6) = false) :
 Calls Tryz.prog 39 #[s.v] w fun e w' => ∃ y : AllF s.d, e = .returned y.v ∧ Below w.heap.size w w' ∧ St w.heap.size (Rd 3 Ln.cs y.v y.L) w' := by
 have h86 := fun (w' : World) (hw : Below w.heap.size w w') => (assign_ok s w' (h.below hw) hB hv).mono fun e w2 ⟨y, h1, h2, h3⟩ => (⟨y, h1, h2, fun w3 hk => (h3 w3 hk).mono hw.size⟩ : ∃ y : {y : TbG // y.D.length = s.su.toNat}, e = Ending.returned y.1.v ∧ Below w'.heap.size w' w2 ∧ St w'.heap.size (TbIn w.heap.size s.T.length y.1 (mkC s.su.toNat s.T.length (asgF s.d s.su.toNat).G)) w2)
 have hok0 := asgF_ok hv s.d.su.toNat (Nat.le_refl _)
 have hst0 := AInv.start hv hok0 (fun i hi => by rw [asgF_row hv (needP_nn hv) hno _ (Nat.le_refl _) i, if_pos hi])
 have hgrp := fun (g : List Int) (hg : g ∈ s.d.G) => grp_at hv hg
 obtain ⟨hv1, hv2, hv3, hv4, hv5, hv6, hv7⟩ := scOk_iff.1 hv
 obtain ⟨hg, hr, ht, hh⟩ := h
 have hb2 := hB.r
 obtain ⟨sl, ro, su, go, gc, G, to, tc, T⟩ := s
 dsimp only [Sc.d] at hv hno hok0 hst0 hgrp hv1 hv2 hv3 hv4 hv5 hv6 hv7 hg hr ht hh hb2 h86 ⊢
 obtain ⟨su, rfl⟩ := Int.eq_ofNat_of_zero_le (show 0 ≤ su by omega)
 simp only [Int.toNat_natCast] at hok0 hst0 h86 hno
 simp only [List.length_map] at hv4 hv5
 have hDG : ∀ g : Nat, (⟨sl, ro, (su : Int), G.map Rw.xs, T.map Tc.d⟩ : SD).G[g]? = (G[g]?).map Rw.xs := fun g => by simp
 have hDn : (⟨sl, ro, (su : Int), G.map Rw.xs, T.map Tc.d⟩ : SD).T.length = T.length := by simp
 have hDg : (⟨sl, ro, (su : Int), G.map Rw.xs, T.map Tc.d⟩ : SD).G.length = G.length := by simp
 have hDsu : (⟨sl, ro, (su : Int), G.map Rw.xs, T.map Tc.d⟩ : SD).su.toNat = su := by simp
 have hgrD : ∀ (g i : Nat), 0 ≤ rowP (⟨sl, ro, (su : Int), G.map Rw.xs, T.map Tc.d⟩ : SD) g i := fun g i => rowP_nn hv g i
 generalize hD : (⟨sl, ro, (su : Int), G.map Rw.xs, T.map Tc.d⟩ : SD) = D at *
 generalize hs0 : asgF D su = s0 at *
 have hfin : ∀ {G' : Nat → Nat → Int} {L : List Ln}, AInv D s0.G G.length 0 0 G' L → AllOK D L := fun H => AInv.all hok0 (by rw [hDg]; exact H)
 refine calls_fam env mixed Tryz.func39 has39 Tryz.ntmps39 [.agg #[iv sl, iv ro, iv su, .slice go G.length gc, .slice to T.length tc]] (by simp) ?_
 repeat'
  conv => whnf
  first
   |refine zB ?_|refine zD ?_
   |((with_reducible show CallEv _ _ 86 ..); refine callF [] (fun y : {y : TbG // y.D.length = su} => y.1.v) (fun y => TbIn w.heap.size T.length y.1 (mkC su T.length s0.G)) (fun β w' _ hbw => h86 w' (by repeat (first | exact hbw | replace hbw := hbw.1))) ?_; intro ⟨y, hyl⟩; dsimp only)
 refine loopH 3 (fun x : Nat × (Nat → Nat → Int) × List Ln => [(1, .ptr 0 0), (2, oSV 1 2 x.2.2), (3, .v (.slice (some ⟨y.o, 0, none⟩) y.D.length y.c)), (12, .v (.slice go G.length gc)), (13, .v (iv G.length)), (14, .v (iv x.1))]) (fun x => (0, .cells [.v (iv sl), .v (iv ro), .v (iv su), .v (.slice go G.length gc), .v (.slice to T.length tc)] 34) :: oM 1 2 3 Ln.cs 46 x.2.2) (fun x w' => Below w.heap.size w w' ∧ TbIn w.heap.size T.length y (mkC su T.length (x.2.1)) w') (fun x => x.1 ≤ G.length ∧ AInv D s0.G x.1 0 0 x.2.1 x.2.2) (fun x => G.length - x.1) (0, s0.G, []) ⟨Nat.zero_le _, hst0⟩ ⟨rfl, rfl, rfl, rfl, rfl, rfl, trivial⟩ ⟨rfl, trivial⟩ (fun _ h => h) (fun x _ => by cases x.2.2 <;> exact ⟨rfl, rfl⟩) ?_
 intro ⟨g, G1, L1⟩ ⟨hgn, hI⟩
 dsimp only at hgn hI ⊢
 have er : ∀ (G1 : Nat → Nat → Int) (i : Nat) (p : Nat × Nat), y.D[i]? = some p → ∀ w', (Below w.heap.size w w' ∧ TbIn w.heap.size T.length y (mkC su T.length (G1)) w') → ∀ (q : Nat) (z : Value), [Value.slice (some ⟨p.1, 0, none⟩) T.length p.2][q]? = some z → w'.cell? (((⟨y.o, 0, none⟩ : Addr).add ((i : Int).toNat * 1)).add q) = some z := fun G1 i p hp w' hw' => own_at1 hw'.2.h i (by rw [List.getElem?_map, hp]; rfl)
 have ei : ∀ (G1 : Nat → Nat → Int) (i t : Nat) (p : Nat × Nat), y.D[i]? = some p → i < su → t < T.length → ∀ w', (Below w.heap.size w w' ∧ TbIn w.heap.size T.length y (mkC su T.length (G1)) w') → ∀ (q : Nat) (z : Value), [iv (G1 i t)][q]? = some z → w'.cell? (((⟨p.1, 0, none⟩ : Addr).add ((t : Int).toNat * 1)).add q) = some z := fun G1 i t p hp hi htl w' hw' => own_at1 (hw'.2.r i p _ hp (mkC_at G1 hi)) t (by rw [mkR_fm, tbV_at _ htl])
 have had : ∀ (b : Nat) (t : Nat), (⟨b, 0, none⟩ : Addr).add ((t : Int).toNat * 1) = ⟨b, t, none⟩ := fun b t => by rw [own_add, Int.toNat_natCast, Nat.mul_one, Nat.zero_add]
 have hsp1 : ∀ (b q : Nat), ((⟨b, 0, none⟩ : Addr).add q).spot = none := fun b q => by rw [own_add]
 have ast : ∀ (G1 : Nat → Nat → Int) (i t : Nat) (p : Nat × Nat), y.D[i]? = some p → i < su → t < T.length → ∀ w', (Below w.heap.size w w' ∧ TbIn w.heap.size T.length y (mkC su T.length (G1)) w') → (∃ cs ty fr, w'.heap[((⟨p.1, 0, none⟩ : Addr).add ((t : Int).toNat * 1)).block]? = some (.cells cs ty fr) ∧ ((⟨p.1, 0, none⟩ : Addr).add ((t : Int).toNat * 1)).off < cs.size) ∧ w'.frozen? ((⟨p.1, 0, none⟩ : Addr).add ((t : Int).toNat * 1)) = false := fun G1 i t p hp hi htl w' hw' => by rw [had]; exact own_atS (hw'.2.r i p _ hp (mkC_at G1 hi)) htl
 have sst : ∀ (G1 : Nat → Nat → Int) (i t : Nat) (p : Nat × Nat) (v : Int), y.D[i]? = some p → i < su → t < T.length → ∀ w', (Below w.heap.size w w' ∧ TbIn w.heap.size T.length y (mkC su T.length (G1)) w') → Below w.heap.size w (w'.setCell ((⟨p.1, 0, none⟩ : Addr).add ((t : Int).toNat * 1)) (iv v)) ∧ TbIn w.heap.size T.length y (mkC su T.length (updG G1 i t v)) (w'.setCell ((⟨p.1, 0, none⟩ : Addr).add ((t : Int).toNat * 1)) (iv v)) := fun G1 i t p v hp hi htl w' hw' => by
  rw [had, ← mkC_set G1 v hi htl]
  exact ⟨below_set hw'.1 (hw'.2.a p (List.mem_of_getElem? hp)).1, hw'.2.set hp (mkC_at G1 hi) htl⟩
 rcases Nat.lt_or_ge g G.length with hgl | hgl
 · obtain ⟨⟨go', gc', gs⟩, hgx⟩ : ∃ b, G[g]? = some b := ⟨_, List.getElem?_eq_getElem hgl⟩
   obtain ⟨_, adg, rfl, _⟩ := hg.ptr (by omega)
   have e6 := fun (w' : World) hw' => rd_ati (hg.below (w' := w') hw') hgx
   have hgr := hr _ (List.mem_of_getElem? hgx)
   change Rd 1 iF (.slice go' gs.length gc') gs w at hgr
   have hgm : D.G[g]? = some gs := by rw [hDG, hgx]; rfl
   have hgm2 : (G.map Rw.xs)[g]? = some gs := by rw [List.getElem?_map, hgx]; rfl
   have hgl2 := hgrp gs (List.mem_of_getElem? hgm2)
   have hrowP : ∀ i, rowP D g i = gs.getD i 0 := fun i => by unfold rowP; rw [show D.G.getD g [] = gs from by rw [List.getD_eq_getElem?_getD, hgm]; rfl]
   repeat'
    conv => whnf
    first
     |refine zG ?_
     |(refine splD ?_ ?_ <;> intro hc <;> first|(exfalso; omega)|skip)
     |refine eL [.slice go' gs.length gc'] ⟨⟨rfl, fun w' hw' => e6 w' hw'.1⟩, ?_⟩
   refine loopH 3 (fun x : Nat × (Nat → Nat → Int) × List Ln => [(1, .ptr 0 0), (2, oSV 1 2 x.2.2), (3, .v (.slice (some ⟨y.o, 0, none⟩) y.D.length y.c)), (12, .v (.slice (some adg) G.length gc)), (13, .v (iv G.length)), (14, .v (iv g)), (4, .v (iv g)), (19, .v (.slice go' gs.length gc')), (20, .v (iv gs.length)), (21, .v (iv x.1))]) (fun x => (0, .cells [.v (iv sl), .v (iv ro), .v (iv su), .v (.slice (some adg) G.length gc), .v (.slice to T.length tc)] 34) :: oM 1 2 3 Ln.cs 46 x.2.2) (fun x w' => Below w.heap.size w w' ∧ TbIn w.heap.size T.length y (mkC su T.length (x.2.1)) w') (fun x => x.1 ≤ gs.length ∧ AInv D s0.G g x.1 0 x.2.1 x.2.2) (fun x => gs.length - x.1) (0, G1, L1) ⟨Nat.zero_le _, hI⟩ ⟨rfl, rfl, rfl, rfl, rfl, rfl, rfl, rfl, rfl, rfl, trivial⟩ (by cases L1 <;> first | exact ⟨rfl, trivial⟩ | exact ⟨rfl, rfl, trivial⟩) (fun _ h => h) (fun x _ => by cases x.2.2 <;> exact ⟨rfl, rfl⟩) ?_
   clear hI
   intro ⟨i, G2, L2⟩ ⟨hin, hI⟩
   dsimp only at hin hI ⊢
   rcases Nat.lt_or_ge i gs.length with hil2 | hil2
   · obtain ⟨v, hvx⟩ : ∃ v, gs[i]? = some v := ⟨_, List.getElem?_eq_getElem hil2⟩
     obtain ⟨_, adr, rfl, _⟩ := hgr.ptr (by omega)
     have e7 := fun (w' : World) hw' => rd_ati (hgr.below (w' := w') hw') hvx
     have hvb := hgl2.2 v (List.mem_of_getElem? hvx)
     have hvr : rowP D g i = v := by rw [hrowP, List.getD_eq_getElem?_getD, hvx]; rfl
     obtain ⟨vn, rfl⟩ := Int.eq_ofNat_of_zero_le hvb.1
     have hil : i < su := by omega
     obtain ⟨p, hp⟩ : ∃ p, y.D[i]? = some p := ⟨_, List.getElem?_eq_getElem (by omega)⟩
     repeat'
      conv => whnf
      first
       |refine zG ?_
       |(refine splD ?_ ?_ <;> intro hc <;> first|(exfalso; omega)|skip)
       |refine eL [iv (vn : Int)] ⟨⟨rfl, fun w' hw' => e7 w' hw'.1⟩, ?_⟩
     refine loopH 3 (fun x : Nat × (Nat → Nat → Int) × List Ln × Nat => [(1, .ptr 0 0), (2, oSV 1 2 x.2.2.1), (3, .v (.slice (some ⟨y.o, 0, none⟩) y.D.length y.c)), (12, .v (.slice (some adg) G.length gc)), (13, .v (iv G.length)), (14, .v (iv g)), (4, .v (iv g)), (19, .v (.slice (some adr) gs.length gc')), (20, .v (iv gs.length)), (21, .v (iv i)), (6, .v (iv i)), (26, .v (iv vn)), (27, .v (iv x.1)), (8, .v (iv x.2.2.2))]) (fun x => (0, .cells [.v (iv sl), .v (iv ro), .v (iv su), .v (.slice (some adg) G.length gc), .v (.slice to T.length tc)] 34) :: oM 1 2 3 Ln.cs 46 x.2.2.1) (fun x w' => Below w.heap.size w w' ∧ TbIn w.heap.size T.length y (mkC su T.length (x.2.1)) w') (fun x => x.1 ≤ vn ∧ AInv D s0.G g i x.1 x.2.1 x.2.2.1 ∧ ∀ t, t < x.2.2.2 → x.2.1 i t = 0) (fun x => vn - x.1) (0, G2, L2, 0) ⟨Nat.zero_le _, hI, fun t h => absurd h (by dsimp only; omega)⟩ ⟨rfl, rfl, rfl, rfl, rfl, rfl, rfl, rfl, rfl, rfl, rfl, rfl, rfl, rfl, trivial⟩ (by cases L2 <;> first | exact ⟨rfl, trivial⟩ | exact ⟨rfl, rfl, trivial⟩) (fun _ h => h) (fun x _ => by cases x.2.2.1 <;> exact ⟨rfl, rfl⟩) ?_
     clear hI
     intro ⟨k, G3, L3, q0⟩ ⟨hkn, hI, hz0⟩
     dsimp only at hkn hI hz0 ⊢
     rcases Nat.lt_or_ge k vn with hkl | hkl
     · have hpos : ∃ t, t < D.T.length ∧ 0 < G3 i t := some_pos (fun t ht => hI.nn i (by omega) t ht) (by
        rw [hI.sum i (by omega)]
        unfold remI
        rw [if_neg (by omega), if_pos rfl, hvr]
        have := remG_nn hgrD (g + 1) i
        omega)
       obtain ⟨t0, ht0, hpos⟩ := hpos
       repeat'
        conv => whnf
        first
         |(refine splD ?_ ?_ <;> intro hc <;> first|(exfalso; omega)|skip)
       refine loopN 3 (fun q : Nat => [(1, .ptr 0 0), (2, oSV 1 2 L3), (3, .v (.slice (some ⟨y.o, 0, none⟩) y.D.length y.c)), (12, .v (.slice (some adg) G.length gc)), (13, .v (iv G.length)), (14, .v (iv g)), (4, .v (iv g)), (19, .v (.slice (some adr) gs.length gc')), (20, .v (iv gs.length)), (21, .v (iv i)), (6, .v (iv i)), (26, .v (iv vn)), (27, .v (iv k)), (8, .v (iv q))]) (fun q => (0, .cells [.v (iv sl), .v (iv ro), .v (iv su), .v (.slice (some adg) G.length gc), .v (.slice to T.length tc)] 34) :: oM 1 2 3 Ln.cs 46 L3) (fun q => q ≤ t0 ∧ ∀ t, t < q → G3 i t = 0) (fun q => t0 - q) q0 ⟨Nat.le_of_not_lt fun h => absurd (hz0 t0 h) (by omega), hz0⟩ ⟨rfl, rfl, rfl, rfl, rfl, rfl, rfl, rfl, rfl, rfl, rfl, rfl, rfl, rfl, trivial⟩ (by cases L3 <;> first | exact ⟨rfl, trivial⟩ | exact ⟨rfl, rfl, trivial⟩) (fun q _ => by cases L3 <;> exact ⟨rfl, rfl⟩) ?_
       intro q ⟨hq, hz⟩
       have hqn : q < T.length := by omega
       have hnn := hI.nn i (by omega) q (by omega)
       have hgb3 := hbd hI.nn hI.len i q (by omega) (by omega)
       by_cases hq0 : G3 i q = 0
       · have hne : q ≠ t0 := fun e => by rw [e] at hq0; omega
         repeat'
          conv => whnf
          first
           |refine zF ?_|refine zG ?_|refine splT ?_
           |refine eL [.slice (some ⟨p.1, 0, none⟩) T.length p.2] ⟨⟨rfl, fun w' hw' => er _ i p hp w' hw'⟩, ?_⟩
           |refine eL [iv ((0 : Int))] ⟨⟨rfl, fun w' hw' => by have := ei G3 i q p hp hil hqn w' hw'; rw [hq0] at this; exact this⟩, ?_⟩
         all_goals first | (exfalso; omega) | exact ⟨q + 1, ⟨by omega, fun t h => by
          by_cases e : t = q
          · rw [e]; exact hq0
          · exact hz t (by omega)⟩, by omega, Ent.weak rfl ⟨rfl, rfl, rfl, rfl, rfl, rfl, rfl, rfl, rfl, rfl, rfl, rfl, rfl, rfl, trivial⟩ (by cases L3 <;> first | exact ⟨rfl, trivial⟩ | exact ⟨rfl, rfl, trivial⟩) fun _ h => h⟩
       · have hI2 := hI.step (p := q) (by omega) (by omega) (by omega) (by omega) (fun t ht h => hok0.te t ht i (by omega) h)
         have hbd3 := hgb3
         have hlen3 := hI.len
         cases L3 with
         | nil =>
          repeat'
           conv => whnf
           first
            |refine zB ?_|refine zF ?_|refine zG ?_|refine zI ?_
            |(refine splD ?_ ?_ <;> intro hc <;> first|(exfalso; omega)|skip)
            |refine eL [.slice (some ⟨p.1, 0, none⟩) T.length p.2] ⟨⟨rfl, fun w' hw' => er _ i p hp w' hw'⟩, ?_⟩
            |refine eL [iv (G3 i q)] ⟨⟨rfl, fun w' hw' => ei _ i q p hp hil hqn w' hw'⟩, ?_⟩
            |refine stF env rfl rfl rfl rfl rfl rfl (hsp1 _ _) (fun w' => Below w.heap.size w w' ∧ TbIn w.heap.size T.length y (mkC su T.length (updG G3 i q (G3 i q - 1))) w') (fun w' hw' => ast G3 i q p hp hil hqn w' hw') (fun w' hw' => sst G3 i q p (G3 i q - 1) hp hil hqn w' hw') ?_
          all_goals exact ⟨(k + 1, updG G3 i q (G3 i q - 1), [] ++ [⟨(g : Int), (i : Int), (q : Int)⟩], q), ⟨by dsimp only; omega, hI2, fun t ht => by dsimp only at ht ⊢; rw [updG_ne _ _ (fun e => by omega)]; exact hz t ht⟩, by dsimp only; omega, Ent.ren (rho [(1, 4), (2, 5)]) rfl rfl ⟨rfl, rfl, rfl, rfl, rfl, rfl, rfl, rfl, rfl, rfl, rfl, rfl, rfl, rfl, trivial⟩ (by exact ⟨rfl, rfl, trivial⟩) fun _ h => h⟩
         | cons a0 L3 =>
          simp only [List.length_cons] at hbd3
          repeat'
           conv => whnf
           first
            |refine zB ?_|refine zF ?_|refine zG ?_|refine zH ?_|refine zI ?_
            |(refine splD ?_ ?_ <;> intro hc <;> first|(exfalso; omega)|skip)
            |refine eL [.slice (some ⟨p.1, 0, none⟩) T.length p.2] ⟨⟨rfl, fun w' hw' => er _ i p hp w' hw'⟩, ?_⟩
            |refine eL [iv (G3 i q)] ⟨⟨rfl, fun w' hw' => ei _ i q p hp hil hqn w' hw'⟩, ?_⟩
            |refine stF env rfl rfl rfl rfl rfl rfl (hsp1 _ _) (fun w' => Below w.heap.size w w' ∧ TbIn w.heap.size T.length y (mkC su T.length (updG G3 i q (G3 i q - 1))) w') (fun w' hw' => ast G3 i q p hp hil hqn w' hw') (fun w' hw' => sst G3 i q p (G3 i q - 1) hp hil hqn w' hw') ?_
          all_goals exact ⟨(k + 1, updG G3 i q (G3 i q - 1), a0 :: L3 ++ [⟨(g : Int), (i : Int), (q : Int)⟩], q), ⟨by dsimp only; omega, hI2, fun t ht => by dsimp only at ht ⊢; rw [updG_ne _ _ (fun e => by omega)]; exact hz t ht⟩, by dsimp only; omega, Ent.ren (rho [(1, 4), (2, 5)]) rfl rfl ⟨rfl, by simp [oSV]; rfl, rfl, rfl, rfl, rfl, rfl, rfl, rfl, rfl, rfl, rfl, rfl, rfl, trivial⟩ (by exact ⟨rfl, by simp [oM]; rfl, trivial⟩) fun _ h => h⟩
     · obtain rfl : k = vn := by omega
       have hI2 := hI.nexti hvr.symm
       repeat'
        conv => whnf
        first
         |refine zF ?_
         |(refine splD ?_ ?_ <;> intro hc <;> first|(exfalso; omega)|skip)
       all_goals exact ⟨(i + 1, G3, L3), ⟨by dsimp only; omega, hI2⟩, by dsimp only; omega, Ent.weak rfl ⟨rfl, rfl, rfl, rfl, rfl, rfl, rfl, rfl, rfl, rfl, trivial⟩ (by cases L3 <;> first | exact ⟨rfl, trivial⟩ | exact ⟨rfl, rfl, trivial⟩) fun _ h => h⟩
   · obtain rfl : i = gs.length := by omega
     have hI2 := AInv.nextg (by rw [show D.su.toNat = gs.length from by omega]; exact hI)
     repeat'
      conv => whnf
      first
       |refine zF ?_
       |(refine splD ?_ ?_ <;> intro hc <;> first|(exfalso; omega)|skip)
     all_goals exact ⟨(g + 1, G2, L2), ⟨by dsimp only; omega, hI2⟩, by dsimp only; omega, Ent.weak rfl ⟨rfl, rfl, rfl, rfl, rfl, rfl, trivial⟩ (by cases L2 <;> first | exact ⟨rfl, trivial⟩ | exact ⟨rfl, rfl, trivial⟩) fun _ h => h⟩
 · obtain rfl : g = G.length := by omega
   have hA := hfin hI
   cases L1 with
   | nil =>
    repeat'
     conv => whnf
     first
      |(refine splD ?_ ?_ <;> intro hc <;> first|(exfalso; omega)|skip)
    all_goals exact ⟨fun w' h => h.1, fun β w' hB hblk => ⟨⟨none, 0, [], hA⟩, rfl, fun w2 k2 => .inl ⟨rfl, rfl⟩⟩⟩
   | cons a0 L1 =>
    repeat'
     conv => whnf
     first
      |(refine splD ?_ ?_ <;> intro hc <;> first|(exfalso; omega)|skip)
    all_goals exact ⟨fun w' h => h.1, fun β w' hB hblk => by obtain ⟨y, h1, h2⟩ := oEnd (sz := 3) (f := Ln.cs) (fun _ => rfl) a0 L1 (hblk 1 _ rfl rfl); exact ⟨⟨y.1, y.2, a0 :: L1, hA⟩, h1, h2⟩⟩
end Go.Proofs.YtkbfcofifhngfaaGreat
