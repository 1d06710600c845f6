/- TopCatcher answers true. By tQG.py. -/
import Derived.Test.YtfbokllafdnglaaQF
import Derived.Test.YtfbokllafdnglaaQM
import Derived.Test.YtfbokllafdnglaaPG
import Derived.Test.YtfbokllafdnglaaSM
namespace Go.Proofs.Ytfbokllafdnglaa
open Go Tx Go.RowKit
set_option linter.unusedSimpArgs false
set_option linter.unusedVariables false

theorem rigM_mem {nb i : Nat} {b : Blk} {p0 : Int} {PP : List Int} {BB : List Bm} {LL : List Ld} (h : (i, b) ∈ rigM nb (p0 :: PP) BB LL) :
    (i = nb ∧ b = .own (nb + 1) (p0 :: PP).length 1 ((p0 :: PP).flatMap iF) 3) ∨ (i = nb + 2 ∧ b = .own (nb + 3) BB.length 8 (BB.flatMap Bm.cs) 134 ∧ BB ≠ []) ∨ (i = nb + 4 ∧ b = .own (nb + 5) LL.length 5 (LL.flatMap Ld.cs) 47 ∧ LL ≠ []) := by
  unfold rigM at h
  rw [List.mem_cons, List.mem_append] at h
  rcases h with h | h | h
  · exact .inl (by simpa using h)
  · cases BB with
    | nil => cases h
    | cons b0 BB => simp only [oM, List.mem_singleton, Prod.mk.injEq] at h; exact .inr (.inl ⟨h.1, h.2, by simp⟩)
  · cases LL with
    | nil => cases h
    | cons l0 LL => simp only [oM, List.mem_singleton, Prod.mk.injEq] at h; exact .inr (.inr ⟨h.1, h.2, by simp⟩)
/-- What Rig_own says, said with the caller's names. -/
theorem rig_mv {nb : Nat} {p0 : Int} {PP : List Int} {BB : List Bm} {LL : List Ld} {f0 f1 f2 : Int} {β : Nat → Nat} {w w' : World} {e : Ending}
    (h : ∃ γ : Nat → Nat, e = .returned ((rigS 0 (PP.length + 1) BB LL f0 f1 f2).c γ) ∧ Below w.heap.size w w' ∧ (∀ i b, (i, b) ∈ rigM 0 (p0 :: PP) BB LL → w.heap.size ≤ γ i ∧ b.ok γ w' (γ i)) ∧ ∀ i b j b', (i, b) ∈ rigM 0 (p0 :: PP) BB LL → (j, b') ∈ rigM 0 (p0 :: PP) BB LL → i ≠ j → γ i ≠ γ j) :
    ∃ γ : Nat → Nat, e = .returned ((rigS nb (PP.length + 1) BB LL f0 f1 f2).c γ) ∧ (∀ i, i ∉ [nb, nb + 1, nb + 2, nb + 3, nb + 4, nb + 5] → γ i = β i) ∧ Below w.heap.size w w' ∧ (∀ i b, (i, b) ∈ rigM nb (p0 :: PP) BB LL → w.heap.size ≤ γ i ∧ b.ok γ w' (γ i)) ∧ ∀ i b j b', (i, b) ∈ rigM nb (p0 :: PP) BB LL → (j, b') ∈ rigM nb (p0 :: PP) BB LL → i ≠ j → γ i ≠ γ j := by
  obtain ⟨γ, h1, h2, h3, h4⟩ := h
  have hk : ∀ k, k < 6 → (fun i => if nb ≤ i ∧ i < nb + 6 then γ (i - nb) else β i) (nb + k) = γ k := fun k hk => by
    show (if _ then _ else _) = _
    rw [if_pos (by omega), Nat.add_sub_cancel_left]
  have k0 := hk 0 (by omega)
  have k1 := hk 1 (by omega)
  have k2 := hk 2 (by omega)
  have k3 := hk 3 (by omega)
  have k4 := hk 4 (by omega)
  have k5 := hk 5 (by omega)
  have ha : ∀ i, i ∉ [nb, nb + 1, nb + 2, nb + 3, nb + 4, nb + 5] → (fun i => if nb ≤ i ∧ i < nb + 6 then γ (i - nb) else β i) i = β i := fun i hi => by
    simp only [List.mem_cons, List.not_mem_nil, or_false, not_or] at hi
    show (if _ then _ else _) = _
    rw [if_neg (by omega)]
  refine ⟨fun i => if nb ≤ i ∧ i < nb + 6 then γ (i - nb) else β i, ?_, ha, h2, ?_, ?_⟩
  all_goals generalize (fun i => if nb ≤ i ∧ i < nb + 6 then γ (i - nb) else β i) = δ at *
  all_goals rw [Nat.add_zero] at k0
  · rw [h1]
    cases BB <;> cases LL <;> simp [rigS, oSV, SV.c, SV.cs, k0, k1, k2, k3, k4, k5]
  · intro i b hm
    obtain ⟨m0, m1, m2⟩ := rigM_of 0 (p0 := p0) (PP := PP) (BB := BB) (LL := LL)
    rcases rigM_mem hm with ⟨rfl, rfl⟩ | ⟨rfl, rfl, hn⟩ | ⟨rfl, rfl, hn⟩
    · have := h3 _ _ m0
      rw [k0]; simp only [Blk.ok] at this ⊢; rw [k1]; exact this
    · have := h3 _ _ (m1 hn)
      rw [k2]; simp only [Blk.ok] at this ⊢; rw [k3]; exact this
    · have := h3 _ _ (m2 hn)
      rw [k4]; simp only [Blk.ok] at this ⊢; rw [k5]; exact this
  · intro i b j b' hm hm' hne
    obtain ⟨m0, m1, m2⟩ := rigM_of 0 (p0 := p0) (PP := PP) (BB := BB) (LL := LL)
    rcases rigM_mem hm with ⟨rfl, rfl⟩ | ⟨rfl, rfl, hn⟩ | ⟨rfl, rfl, hn⟩ <;> rcases rigM_mem hm' with ⟨rfl, rfl⟩ | ⟨rfl, rfl, hn'⟩ | ⟨rfl, rfl, hn'⟩
    · exact absurd rfl hne
    · rw [k0, k2]; exact h4 _ _ _ _ m0 (m1 hn') (by decide)
    · rw [k0, k4]; exact h4 _ _ _ _ m0 (m2 hn') (by decide)
    · rw [k2, k0]; exact h4 _ _ _ _ (m1 hn) m0 (by decide)
    · exact absurd rfl hne
    · rw [k2, k4]; exact h4 _ _ _ _ (m1 hn) (m2 hn') (by decide)
    · rw [k4, k0]; exact h4 _ _ _ _ (m2 hn) m0 (by decide)
    · rw [k4, k2]; exact h4 _ _ _ _ (m2 hn) (m1 hn') (by decide)
    · exact absurd rfl hne
theorem cv16 (n : Int) (h : 0 ≤ n ∧ n ≤ 65535) : RunIs Try.prog (convert 67 3 (.int .u16 n)) (iv n) := fun w => by
  have h1 : Try.prog.underlying 67 = some (.int .u16) := by kernel_rfl
  have h2 : Try.prog.underlying 3 = some (.int .i64) := by kernel_rfl
  have h3 : IntKind.i64.wrap n = n := IR.wrap (k := .i64) ⟨by omega, by omega⟩
  simp [convert, Conv.intToInt, Go.run_underlying h1 w, Go.run_underlying h2 w, h3]
theorem cv8 (n : Int) (h : 0 ≤ n ∧ n ≤ 255) : RunIs Try.prog (convert 5 3 (.int .u8 n)) (iv n) := fun w => by
  have h1 : Try.prog.underlying 5 = some (.int .u8) := by kernel_rfl
  have h2 : Try.prog.underlying 3 = some (.int .i64) := by kernel_rfl
  have h3 : IntKind.i64.wrap n = n := IR.wrap (k := .i64) ⟨by omega, by omega⟩
  simp [convert, Conv.intToInt, Go.run_underlying h1 w, Go.run_underlying h2 w, h3]
theorem over_none {r : Rig} {PP : List Int} {BB : List Bm} {LL : List Ld} (hr : rigOk r.f0 r.f1 r.f2 PP BB LL = true) (hs : sfW r PP BB LL = true) (y : (Option Addr × Nat) × (Option Addr × Nat) × (Option Addr × Nat)) (w : World) (h : nrH PP BB LL y w) (h1 : PP.length ≤ 1000000) (h2 : BB.length ≤ 1000000) (h3 : LL.length ≤ 1000000) :
    Calls Try.prog 11 #[nrV PP BB LL r.f0 r.f1 r.f2 y] w fun e w' => ∃ z : Option Addr × Nat, e = .returned (.tuple #[.agg #[iv 0, iv 0], sV 0 z, iv 7]) ∧ Below w.heap.size w w' ∧ St w.heap.size (fun _ => True) w' := by
  have hn : ovO r PP BB LL (frF BB LL) = none := by
    unfold sfW at hs
    rw [Bool.and_eq_true] at hs
    exact Option.isNone_iff_eq_none.1 hs.1
  refine (Over_nr PP BB LL r.f0 r.f1 r.f2 r none (by rw [hr, if_pos rfl, hn]) ⟨rfl, rfl, rfl⟩ y w h h1 h2 h3).mono fun e w' ⟨z, q1, q2, _⟩ => ⟨z, ?_, q2, fun _ _ => trivial⟩
  rw [hr] at q1
  exact q1
theorem slack_none {r : Rig} {PP : List Int} {BB : List Bm} {LL : List Ld} (hr : rigOk r.f0 r.f1 r.f2 PP BB LL = true) (hs : sfW r PP BB LL = true) (y : (Option Addr × Nat) × (Option Addr × Nat) × (Option Addr × Nat)) (w : World) (h : nrH PP BB LL y w) (h1 : PP.length ≤ 1000000) (h2 : BB.length ≤ 1000000) (h3 : LL.length ≤ 1000000) :
    Calls Try.prog 18 #[nrV PP BB LL r.f0 r.f1 r.f2 y] w fun e w' => ∃ z : Option Addr × Nat, e = .returned (.tuple #[.agg #[iv 0, iv 0], sV 0 z, iv 7]) ∧ Below w.heap.size w w' ∧ St w.heap.size (fun _ => True) w' := by
  have hn : slO r BB LL (frF BB LL) = none := by
    unfold sfW at hs
    rw [Bool.and_eq_true] at hs
    exact Option.isNone_iff_eq_none.1 hs.2
  refine (Slack_nr PP BB LL r.f0 r.f1 r.f2 r none (by rw [hr, if_pos rfl, hn]) ⟨rfl, rfl, rfl⟩ y w h h1 h2 h3).mono fun e w' ⟨z, q1, q2, _⟩ => ⟨z, ?_, q2, fun _ _ => trivial⟩
  rw [hr] at q1
  exact q1
/-- A softer catch. -/
def softer (f : Ft) (sf : Int) : Ft := { f with so := imin 100 (f.so + sf) }
theorem softer_ok {f : Ft} {sf : Int} (h : ftB f = true) (hs : 0 ≤ sf) : ftB (softer f sf) = true := by
  rw [ftB_iff] at h ⊢
  obtain ⟨h1, h2, h3, h4, h5, h6⟩ := h
  refine ⟨h1, h2, h3, h4, ?_, h6⟩
  show 1 ≤ imin 100 (f.so + sf) ∧ imin 100 (f.so + sf) ≤ 100
  rw [imin_eq]
  omega
theorem softer_ld {f : Ft} {sf t : Int} (h : ftB f = true) (hs : 0 ≤ sf) (ht : 0 ≤ t ∧ t ≤ 300) : 0 ≤ ldF (softer f sf) t ∧ ldF (softer f sf) t ≤ ldF f t ∧ ldF f t ≤ 10000000 := by
  rw [ftB_iff] at h
  obtain ⟨h1, h2, h3, h4, h5, h6⟩ := h
  rw [flB_iff] at h2
  obtain ⟨_, h2, hm⟩ := h2
  have q1 := ldQ_bd (so := f.so) h2 ht h5.1
  have hle : f.so ≤ imin 100 (f.so + sf) := by rw [imin_eq]; omega
  have q2 := ldQ_soft h2 ht h5.1 hle
  have q3 := ldQ_bd (so := imin 100 (f.so + sf)) h2 ht (by omega)
  show 0 ≤ f.m * (98 + ldQ f.s (imin 100 (f.so + sf)) t) ∧ f.m * (98 + ldQ f.s (imin 100 (f.so + sf)) t) ≤ f.m * (98 + ldQ f.s f.so t) ∧ f.m * (98 + ldQ f.s f.so t) ≤ 10000000
  refine ⟨Int.mul_nonneg (by omega) (by omega), Int.mul_le_mul_of_nonneg_left (by omega) (by omega), ?_⟩
  have : f.m * (98 + ldQ f.s f.so t) ≤ 200 * 40098 := Int.mul_le_mul (by omega) (by omega) (by omega) (by omega)
  omega

set_option maxHeartbeats 16000000 in
set_option maxRecDepth 100000 in
theorem CatchRest (po bo lo co : Option Addr) (pn pc bn bc ln lc cc : Nat) (f0 f1 f2 p1 p2 p3 p4 s1 s2 s3 s4 m re so be le mo : Int) (C : List Bx) (PP : List Int) (BB : List Bm) (LL : List Ld) (b a : Int) (tk sf : Int) (w : World) (hX : RigX ⟨po, pn, pc, bo, bn, bc, f0, f1, f2, lo, ln, lc⟩ PP BB LL w) (hC : Rd 4 Bx.cs (.slice co C.length cc) C w) (htk : 0 ≤ tk ∧ tk ≤ 65535) (hsf : 0 ≤ sf ∧ sf ≤ 255)
    (hr : rigOk f0 f1 f2 PP BB LL = true) (hl19 : LL.length ≤ 19) (hC7 : C.length ≤ 700) (hq : ftB ⟨⟨p1, p2, p3, p4⟩, ⟨s1, s2, s3, s4⟩, m, co, cc, C, re, so, be, le, mo⟩ = true) (E V : Int) (hE : rmE ⟨po, pn, pc, bo, bn, bc, f0, f1, f2, lo, ln, lc⟩ PP BB LL b a 2 = E) (hV : rmV ⟨po, pn, pc, bo, bn, bc, f0, f1, f2, lo, ln, lc⟩ PP BB LL b a 2 = V) :
    VC Try.prog (rest 4 body4) ⟨165, [(3, .v (.int .u16 tk)), (4, .v (.int .u8 sf)), (5, .ptr 0 0), (7, .ptr 2 0), (11, .ptr 3 0), (12, .v (iv V)), (13, .v (iv E))], [(0, .cells [.v (.slice po pn pc), .v (.slice bo bn bc), .v (iv f0), .v (iv f1), .v (iv f2), .v (.slice lo ln lc)] 54), (2, .cells [.v (iv p1), .v (iv p2), .v (iv p3), .v (iv p4), .v (iv s1), .v (iv s2), .v (iv s3), .v (iv s4), .v (iv m), .v (.slice co C.length cc), .v (iv re), .v (iv so), .v (iv be), .v (iv le), .v (iv mo)] 66), (3, .cells [.v (iv b), .v (iv a)] 43)], 4, Below w.heap.size w, z0⟩ (endΦ env Try.f4 fun s σ => (∀ β, s.c β = .bool true) ∧ ∀ w', σ.h w' → Below w.heap.size w w') := by
  obtain ⟨r, hrd⟩ : ∃ r : Rig, ⟨po, pn, pc, bo, bn, bc, f0, f1, f2, lo, ln, lc⟩ = r := ⟨_, rfl⟩
  have q0 : r.f0 = f0 := by rw [← hrd]
  have q1 : r.f1 = f1 := by rw [← hrd]
  have q2 : r.f2 = f2 := by rw [← hrd]
  have q3 : r.pn = pn := by rw [← hrd]
  have q4 : r.bn = bn := by rw [← hrd]
  have q5 : r.ln = ln := by rw [← hrd]
  rw [hrd] at hX hE hV
  rw [← q0, ← q1, ← q2] at hr
  have hpn := hX.pn
  have hbn := hX.bn
  have hln := hX.ln
  rw [q3] at hpn
  rw [q4] at hbn
  rw [q5] at hln
  have hri := rigOk_iff.1 hr
  have hm12 := hri.2.2.1
  have hP1 := hri.1
  have hin := hX.rin (by omega) (by omega) (by omega)
  have hcs := rmE_cases (b := b) (a := a) (kd := 2) hr hl19
  rw [hE, hV] at hcs
  have hok := fun (hh : hasB PP.length b a BB.length = true) (n : Int) (hn : 0 ≤ n ∧ n ≤ 1000000) => rigOk_more hr (kd := 2) hh (by omega) hn (by omega)
  have h16 := fun (w' : World) (hb : Below w.heap.size w w') => cvFlight_ok ⟨⟨p1, p2, p3, p4⟩, ⟨s1, s2, s3, s4⟩, m, co, cc, C, re, so, be, le, mo⟩ w' (hC.below hb) (by dsimp only; omega)
  have hfq := ftB_iff.1 hq
  have hfle : 0 ≤ le ∧ le ≤ mo ∧ mo ≤ 300 := by dsimp only at hfq; omega
  have hq1 := Int.emod_nonneg tk (show mo - le + 1 ≠ 0 by omega)
  have hq2 := Int.emod_lt_of_pos tk (show 0 < mo - le + 1 by omega)
  obtain ⟨q, hqd⟩ : ∃ q : Int, tk % (mo - le + 1) = q := ⟨_, rfl⟩
  rw [hqd] at hq1 hq2
  have ht : 0 ≤ le + q ∧ le + q ≤ 300 := by omega
  have h17a := fun (y : Option Addr × Nat) (w' : World) (h : Rd 4 Bx.cs (sV C.length y) C w') => Load_ok ⟨⟨p1, p2, p3, p4⟩, ⟨s1, s2, s3, s4⟩, m, co, cc, C, re, so, be, le, mo⟩ y (le + q) w' h hq ht
  have h17b := fun (y : Option Addr × Nat) (w' : World) (h : Rd 4 Bx.cs (sV C.length y) C w') => Load_ok (softer ⟨⟨p1, p2, p3, p4⟩, ⟨s1, s2, s3, s4⟩, m, co, cc, C, re, so, be, le, mo⟩ sf) y (le + q) w' h (softer_ok hq hsf.1) ht
  have hld := softer_ld (t := le + q) hq hsf.1 ht
  have hsoft : 1 ≤ so ∧ so ≤ 100 := hfq.2.2.2.2.1
  unfold softer at h17b hld
  dsimp only at h16 h17a h17b hld
  obtain ⟨so', hso'⟩ : ∃ x : Int, imin 100 (so + sf) = x := ⟨_, rfl⟩
  rw [hso'] at h17b hld
  generalize ldF ⟨⟨p1, p2, p3, p4⟩, ⟨s1, s2, s3, s4⟩, m, co, cc, C, re, so, be, le, mo⟩ (le + q) = nA at *
  generalize ldF _ (le + q) = nB at *
  have h30o := fun (p0 : Int) (PP' : List Int) (hp : PP = p0 :: PP') (w' : World) (hb : Below w.heap.size w w') => Rig_own r p0 PP' BB LL w' (by rw [← hp]; exact hin.below hb) (by omega) (by omega)
  have hfac : 0 ≤ r.fac 2 := by have := fac_bd (r := r) hri.2.2.2.2.2.1 2; omega
  have hbear : ∀ lm : Ld, rigOk r.f0 r.f1 r.f2 PP BB (LL ++ [lm]) = true → sfW r PP BB (LL ++ [lm]) = true → ∀ (y : (Option Addr × Nat) × (Option Addr × Nat) × (Option Addr × Nat)) (w' : World), nrH PP BB (LL ++ [lm]) y w' →
      Calls Try.prog 11 #[nrV PP BB (LL ++ [lm]) r.f0 r.f1 r.f2 y] w' (fun e w2 => ∃ z : Option Addr × Nat, e = .returned (.tuple #[.agg #[iv 0, iv 0], sV 0 z, iv 7]) ∧ Below w'.heap.size w' w2 ∧ St w'.heap.size (fun _ => True) w2) ∧
      Calls Try.prog 18 #[nrV PP BB (LL ++ [lm]) r.f0 r.f1 r.f2 y] w' (fun e w2 => ∃ z : Option Addr × Nat, e = .returned (.tuple #[.agg #[iv 0, iv 0], sV 0 z, iv 7]) ∧ Below w'.heap.size w' w2 ∧ St w'.heap.size (fun _ => True) w2) := fun lm h1 h2 y w' h => ⟨over_none h1 h2 y w' h (by omega) (by omega) (by rw [List.length_append]; simp; omega), slack_none h1 h2 y w' h (by omega) (by omega) (by rw [List.length_append]; simp; omega)⟩
  have hsfm : ∀ (hh : hasB PP.length b a BB.length = true) (v n : Int), 0 ≤ n → n ≤ v → v ≤ 1000000 → sfB r PP BB LL b a 2 v = true → sfW r PP BB (LL ++ [⟨b, a, 2, 0, n⟩]) = true := fun hh v n h0 h1 h2 hs => sfB_mono (hok hh n (by omega)) hfac h1 hs
  rw [q0, q1, q2] at hbear hok h30o
  clear hX hin hfq hq hfac hC hE hV hri hr
  have hrd2 := hrd
  subst hpn
  subst hbn
  subst hln
  refine VC.of env mixed ?_
  rcases hcs with ⟨rfl, rfl⟩ | ⟨rfl, rfl⟩ | ⟨rfl, hh, hk, v, rfl, hv, hs1, hs2⟩
  · skip
    repeat'
     conv => whnf
     first
      | refine zA ?_ | refine zB ?_ | refine zC ?_ | refine zD ?_ | refine zE ?_ | refine zF ?_ | refine zG ?_ | refine zH ?_ | refine zJ ?_ | refine zI ?_ | refine splT ?_ | refine splF ?_ | refine splNot ?_
      | ((first | refine splIn (fun hc => ?_) (fun hc => ?_) | refine splD (fun hc => ?_) (fun hc => ?_) | refine splE (fun hc => ?_) (fun hc => ?_) | refine splNE (fun hc => ?_) (fun hc => ?_)) <;> first | (exfalso; omega) | (exfalso; dsimp only at hc; omega) | skip)
      | ((with_reducible show CallEv _ _ 8 _ _ _ _ _); refine callE (k := 8) (fun β w' hbw => hangs_ok _) ?_)
    all_goals first | (exfalso; omega) | exact ⟨fun β => rfl, fun w' h => h⟩
  · skip
    repeat'
     conv => whnf
     first
      | refine zA ?_ | refine zB ?_ | refine zC ?_ | refine zD ?_ | refine zE ?_ | refine zF ?_ | refine zG ?_ | refine zH ?_ | refine zJ ?_ | refine zI ?_ | refine splT ?_ | refine splF ?_ | refine splNot ?_
      | ((first | refine splIn (fun hc => ?_) (fun hc => ?_) | refine splD (fun hc => ?_) (fun hc => ?_) | refine splE (fun hc => ?_) (fun hc => ?_) | refine splNE (fun hc => ?_) (fun hc => ?_)) <;> first | (exfalso; omega) | (exfalso; dsimp only at hc; omega) | skip)
      | ((with_reducible show CallEv _ _ 8 _ _ _ _ _); refine callE (k := 8) (fun β w' hbw => hangs_ok _) ?_)
    all_goals first | (exfalso; omega) | exact ⟨fun β => rfl, fun w' h => h⟩
  have hok := hok hh
  have hsfm := hsfm hh v
  clear hs2
  repeat'
   conv => whnf
   first
    | refine zA ?_ | refine zB ?_ | refine zC ?_ | refine zD ?_ | refine zE ?_ | refine zF ?_ | refine zG ?_ | refine zH ?_ | refine zJ ?_ | refine zI ?_ | refine splT ?_ | refine splF ?_ | refine splNot ?_
    | ((first | refine splIn (fun hc => ?_) (fun hc => ?_) | refine splD (fun hc => ?_) (fun hc => ?_) | refine splE (fun hc => ?_) (fun hc => ?_) | refine splNE (fun hc => ?_) (fun hc => ?_)) <;> first | (exfalso; omega) | (exfalso; dsimp only at hc; omega) | skip)
    | refine Exists.intro (α := Value) (iv tk) ⟨cv16 tk htk, ?_⟩
    | refine Exists.intro (α := Value) (iv sf) ⟨cv8 sf hsf, ?_⟩
    | refine remE (by omega) (by omega) ?_; rw [hqd]
    | ((with_reducible show CallEv _ _ 16 _ _ _ _ _); refine callF [] (fun y : Option Addr × Nat => .agg #[iv p1, iv p2, iv p3, iv p4, iv s1, iv s2, iv s3, iv s4, iv m, sV C.length y, iv re, iv so, iv be, iv le, iv mo]) (fun y => Rd 4 Bx.cs (sV C.length y) C) (fun β w' _ hbw => h16 w' ((by repeat (first | exact hbw | replace hbw := hbw.1)))) ?_; intro y; obtain ⟨y1, y2⟩ := y; dsimp only)
    | ((with_reducible show CallEv _ _ 17 [.v _, _] _ _ _ _); refine callE (k := 17) (fun β w' hbw => h17a (_, _) _ (by first | exact hbw.2 | exact hbw.1.2 | exact hbw.1.1.2 | exact hbw.1.1.1.2 | exact hbw.1.1.1.1.2 | exact hbw.1.1.1.1.1.2 | exact hbw.1.1.1.1.1.1.2 | exact hbw.1.1.1.1.1.1.1.2 | exact hbw.1.1.1.1.1.1.1.1.2 | exact hbw.1.1.1.1.1.1.1.1.1.2 | exact hbw.1.1.1.1.1.1.1.1.1.1.2 | exact hbw.1.1.1.1.1.1.1.1.1.1.1.2 | exact hbw.1.1.1.1.1.1.1.1.1.1.1.1.2 | exact hbw.1.1.1.1.1.1.1.1.1.1.1.1.1.2)) ?_)
    | ((with_reducible show CallEv _ _ 17 [.agg _, _] _ _ _ _); rw [hso']; refine callE (k := 17) (fun β w' hbw => h17b (_, _) _ (by first | exact hbw.2 | exact hbw.1.2 | exact hbw.1.1.2 | exact hbw.1.1.1.2 | exact hbw.1.1.1.1.2 | exact hbw.1.1.1.1.1.2 | exact hbw.1.1.1.1.1.1.2 | exact hbw.1.1.1.1.1.1.1.2 | exact hbw.1.1.1.1.1.1.1.1.2 | exact hbw.1.1.1.1.1.1.1.1.1.2 | exact hbw.1.1.1.1.1.1.1.1.1.1.2 | exact hbw.1.1.1.1.1.1.1.1.1.1.1.2 | exact hbw.1.1.1.1.1.1.1.1.1.1.1.1.2 | exact hbw.1.1.1.1.1.1.1.1.1.1.1.1.1.2)) ?_)
    | ((with_reducible show CallEv _ _ 8 _ _ _ _ _); refine callE (k := 8) (fun β w' hbw => hangs_ok _) ?_)
  all_goals first | (exfalso; omega) | exact ⟨fun β => rfl, fun w' h => h.1.1⟩ | skip
  have hnv : nA ≤ v := by omega
  refine loopN 5 (fun k : Nat => [(5, .ptr 0 0), (11, .ptr 3 0), (131, .agg [.v (iv nA), .v (iv nB)]), (132, .v (iv k))]) (fun _ => [(0, .cells [.v (.slice po PP.length pc), .v (.slice bo BB.length bc), .v (iv f0), .v (iv f1), .v (iv f2), .v (.slice lo LL.length lc)] 54), (3, .cells [.v (iv b), .v (iv a)] 43)])
    (fun k => k ≤ 2) (fun k => 2 - k) 0 (by omega) ⟨rfl, rfl, rfl, rfl, trivial⟩ ⟨rfl, rfl, trivial⟩ (fun _ _ => ⟨rfl, rfl⟩) ?_
  intro k hk2
  by_cases hout : k = 2
  case pos =>
    subst hout
    repeat'
     conv => whnf
     first
      | refine zA ?_ | refine zB ?_ | refine zC ?_ | refine zD ?_ | refine zE ?_ | refine zF ?_ | refine zG ?_ | refine zH ?_ | refine zJ ?_ | refine zI ?_ | refine splT ?_ | refine splF ?_ | refine splNot ?_
      | ((first | refine splIn (fun hc => ?_) (fun hc => ?_) | refine splD (fun hc => ?_) (fun hc => ?_) | refine splE (fun hc => ?_) (fun hc => ?_) | refine splNE (fun hc => ?_) (fun hc => ?_)) <;> first | (exfalso; omega) | (exfalso; dsimp only at hc; omega) | skip)
      | ((with_reducible show CallEv _ _ 8 _ _ _ _ _); refine callE (k := 8) (fun β w' hbw => hangs_ok _) ?_)
    all_goals first | (exfalso; omega) | exact ⟨fun β => rfl, fun w' h => h.1.1⟩
  obtain ⟨p0, PP', hPe⟩ : ∃ p0 PP', PP = p0 :: PP' := by cases PP with | nil => simp at hP1 | cons p0 PP' => exact ⟨p0, PP', rfl⟩
  have h30p := h30o p0 PP' hPe
  rw [← hrd] at h30p
  clear h30o
  obtain ⟨z, hz, hzk⟩ : ∃ z : Int, (0 ≤ z ∧ z ≤ v) ∧ ((k = 0 ∧ z = nA) ∨ (k = 1 ∧ z = nB)) := by
    rcases (by omega : k = 0 ∨ k = 1) with rfl | rfl
    · exact ⟨nA, by omega, .inl ⟨rfl, rfl⟩⟩
    · exact ⟨nB, by omega, .inr ⟨rfl, rfl⟩⟩
  have hr2 := hok z (by omega)
  have hsf2 := hsfm z hz.1 hz.2 (by omega) hs1
  obtain ⟨lm, hlm⟩ : ∃ lm : Ld, (⟨b, a, 2, 0, z⟩ : Ld) = lm := ⟨_, rfl⟩
  have hfx : ∀ L : List Ld, L.flatMap Ld.cs ++ [iv b, iv a, .int .u8 2, iv 0, iv z] = (L ++ [lm]).flatMap Ld.cs := fun L => by rw [← hlm, List.flatMap_append]; simp
  have hfn : [iv b, iv a, .int .u8 2, iv 0, iv z] = ([lm] : List Ld).flatMap Ld.cs := by rw [← hlm]; simp
  rw [hlm] at hr2 hsf2
  have h11 := fun y w' h => (hbear lm hr2 hsf2 y w' h).1
  have h18 := fun y w' h => (hbear lm hr2 hsf2 y w' h).2
  clear hbear hok hsfm hs1 hr2 hsf2 h16 h17a h17b hrd hrd2 q0 q1 q2 q3 q4 q5
  subst hPe
  cases BB with
  | nil =>
    cases LL with
    | nil =>
      simp only [nrV, List.length_append, List.length_cons, List.length_nil] at h11 h18
      rcases hzk with ⟨rfl, rfl⟩ | ⟨rfl, rfl⟩
      · skip
        repeat'
         conv => whnf
         first
          | refine zA ?_ | refine zB ?_ | refine zC ?_ | refine zD ?_ | refine zE ?_ | refine zF ?_ | refine zG ?_ | refine zH ?_ | refine zJ ?_ | refine zI ?_ | refine splT ?_ | refine splF ?_ | refine splNot ?_
          | ((first | refine splIn (fun hc => ?_) (fun hc => ?_) | refine splD (fun hc => ?_) (fun hc => ?_) | refine splE (fun hc => ?_) (fun hc => ?_) | refine splNE (fun hc => ?_) (fun hc => ?_)) <;> first | (exfalso; omega) | (exfalso; dsimp only at hc; omega) | skip)
          | refine idxS env rfl rfl rfl rfl (And.intro (by omega) (by omega)) rfl rfl (.inr ⟨rfl, rfl⟩) rfl ?_
          | ((with_reducible show CallEv _ _ 15 _ _ _ _ _); refine callR [5, 6, 7, 8, 9, 10] [] (rigM 5 (p0 :: PP') ([] : List Bm) ([] : List Ld)) (rigS 5 (PP'.length + 1) ([] : List Bm) ([] : List Ld) f0 f1 f2) rfl (fun i b hi => by rcases rigM_mem hi with ⟨rfl, _⟩ | ⟨rfl, _⟩ | ⟨rfl, _⟩ <;> decide) (fun β w' _ hbw => (h30p w' ((by repeat (first | exact hbw | replace hbw := hbw.1)))).mono fun e w2 h => rig_mv h) ?_)
          | ((with_reducible show CallEv _ _ 11 _ _ _ _ _); refine callF [5, 13] (fun z : Option Addr × Nat => .tuple #[.agg #[iv 0, iv 0], sV 0 z, iv 7]) (fun _ _ => True) (fun β w' hbk hbw => h11 ((some ⟨β 5, 0, none⟩, β 6), (none, 0), (some ⟨β 13, 0, none⟩, β 14)) w' ⟨Rd.of_owns (sz := 1) (f := iF) (fun _ => rfl) rfl rfl (hbk 5 (by simp) _ rfl), .inl ⟨rfl, rfl⟩, Rd.of_owns (sz := 5) (f := Ld.cs) (fun _ => rfl) (hfn) (by simp) (hbk 13 (by simp) _ rfl)⟩) ?_; intro z; obtain ⟨z1, z2⟩ := z; dsimp only)
          | ((with_reducible show CallEv _ _ 18 _ _ _ _ _); refine callF [5, 13] (fun z : Option Addr × Nat => .tuple #[.agg #[iv 0, iv 0], sV 0 z, iv 7]) (fun _ _ => True) (fun β w' hbk hbw => h18 ((some ⟨β 5, 0, none⟩, β 6), (none, 0), (some ⟨β 13, 0, none⟩, β 14)) w' ⟨Rd.of_owns (sz := 1) (f := iF) (fun _ => rfl) rfl rfl (hbk 5 (by simp) _ rfl), .inl ⟨rfl, rfl⟩, Rd.of_owns (sz := 5) (f := Ld.cs) (fun _ => rfl) (hfn) (by simp) (hbk 13 (by simp) _ rfl)⟩) ?_; intro z; obtain ⟨z1, z2⟩ := z; dsimp only)
        all_goals first | (exfalso; omega) | exact ⟨1, by omega, by omega, Ent.weak rfl ⟨rfl, rfl, rfl, rfl, trivial⟩ ⟨rfl, rfl, trivial⟩ fun _ h => h.1.1⟩
      · skip
        repeat'
         conv => whnf
         first
          | refine zA ?_ | refine zB ?_ | refine zC ?_ | refine zD ?_ | refine zE ?_ | refine zF ?_ | refine zG ?_ | refine zH ?_ | refine zJ ?_ | refine zI ?_ | refine splT ?_ | refine splF ?_ | refine splNot ?_
          | ((first | refine splIn (fun hc => ?_) (fun hc => ?_) | refine splD (fun hc => ?_) (fun hc => ?_) | refine splE (fun hc => ?_) (fun hc => ?_) | refine splNE (fun hc => ?_) (fun hc => ?_)) <;> first | (exfalso; omega) | (exfalso; dsimp only at hc; omega) | skip)
          | refine idxS env rfl rfl rfl rfl (And.intro (by omega) (by omega)) rfl rfl (.inr ⟨rfl, rfl⟩) rfl ?_
          | ((with_reducible show CallEv _ _ 15 _ _ _ _ _); refine callR [5, 6, 7, 8, 9, 10] [] (rigM 5 (p0 :: PP') ([] : List Bm) ([] : List Ld)) (rigS 5 (PP'.length + 1) ([] : List Bm) ([] : List Ld) f0 f1 f2) rfl (fun i b hi => by rcases rigM_mem hi with ⟨rfl, _⟩ | ⟨rfl, _⟩ | ⟨rfl, _⟩ <;> decide) (fun β w' _ hbw => (h30p w' ((by repeat (first | exact hbw | replace hbw := hbw.1)))).mono fun e w2 h => rig_mv h) ?_)
          | ((with_reducible show CallEv _ _ 11 _ _ _ _ _); refine callF [5, 13] (fun z : Option Addr × Nat => .tuple #[.agg #[iv 0, iv 0], sV 0 z, iv 7]) (fun _ _ => True) (fun β w' hbk hbw => h11 ((some ⟨β 5, 0, none⟩, β 6), (none, 0), (some ⟨β 13, 0, none⟩, β 14)) w' ⟨Rd.of_owns (sz := 1) (f := iF) (fun _ => rfl) rfl rfl (hbk 5 (by simp) _ rfl), .inl ⟨rfl, rfl⟩, Rd.of_owns (sz := 5) (f := Ld.cs) (fun _ => rfl) (hfn) (by simp) (hbk 13 (by simp) _ rfl)⟩) ?_; intro z; obtain ⟨z1, z2⟩ := z; dsimp only)
          | ((with_reducible show CallEv _ _ 18 _ _ _ _ _); refine callF [5, 13] (fun z : Option Addr × Nat => .tuple #[.agg #[iv 0, iv 0], sV 0 z, iv 7]) (fun _ _ => True) (fun β w' hbk hbw => h18 ((some ⟨β 5, 0, none⟩, β 6), (none, 0), (some ⟨β 13, 0, none⟩, β 14)) w' ⟨Rd.of_owns (sz := 1) (f := iF) (fun _ => rfl) rfl rfl (hbk 5 (by simp) _ rfl), .inl ⟨rfl, rfl⟩, Rd.of_owns (sz := 5) (f := Ld.cs) (fun _ => rfl) (hfn) (by simp) (hbk 13 (by simp) _ rfl)⟩) ?_; intro z; obtain ⟨z1, z2⟩ := z; dsimp only)
        all_goals first | (exfalso; omega) | exact ⟨2, by omega, by omega, Ent.weak rfl ⟨rfl, rfl, rfl, rfl, trivial⟩ ⟨rfl, rfl, trivial⟩ fun _ h => h.1.1⟩
    | cons l0 LL =>
      simp only [nrV, List.length_append, List.length_cons, List.length_nil] at h11 h18
      simp only [List.length_cons] at hl19
      rcases hzk with ⟨rfl, rfl⟩ | ⟨rfl, rfl⟩
      · skip
        repeat'
         conv => whnf
         first
          | refine zA ?_ | refine zB ?_ | refine zC ?_ | refine zD ?_ | refine zE ?_ | refine zF ?_ | refine zG ?_ | refine zH ?_ | refine zJ ?_ | refine zI ?_ | refine splT ?_ | refine splF ?_ | refine splNot ?_
          | ((first | refine splIn (fun hc => ?_) (fun hc => ?_) | refine splD (fun hc => ?_) (fun hc => ?_) | refine splE (fun hc => ?_) (fun hc => ?_) | refine splNE (fun hc => ?_) (fun hc => ?_)) <;> first | (exfalso; omega) | (exfalso; dsimp only at hc; omega) | skip)
          | refine idxS env rfl rfl rfl rfl (And.intro (by omega) (by omega)) rfl rfl (.inr ⟨rfl, rfl⟩) rfl ?_
          | ((with_reducible show CallEv _ _ 15 _ _ _ _ _); refine callR [5, 6, 7, 8, 9, 10] [] (rigM 5 (p0 :: PP') ([] : List Bm) (l0 :: LL)) (rigS 5 (PP'.length + 1) ([] : List Bm) (l0 :: LL) f0 f1 f2) rfl (fun i b hi => by rcases rigM_mem hi with ⟨rfl, _⟩ | ⟨rfl, _⟩ | ⟨rfl, _⟩ <;> decide) (fun β w' _ hbw => (h30p w' ((by repeat (first | exact hbw | replace hbw := hbw.1)))).mono fun e w2 h => rig_mv h) ?_)
          | ((with_reducible show CallEv _ _ 11 _ _ _ _ _); refine callF [5, 13] (fun z : Option Addr × Nat => .tuple #[.agg #[iv 0, iv 0], sV 0 z, iv 7]) (fun _ _ => True) (fun β w' hbk hbw => h11 ((some ⟨β 5, 0, none⟩, β 6), (none, 0), (some ⟨β 13, 0, none⟩, β 14)) w' ⟨Rd.of_owns (sz := 1) (f := iF) (fun _ => rfl) rfl rfl (hbk 5 (by simp) _ rfl), .inl ⟨rfl, rfl⟩, Rd.of_owns (sz := 5) (f := Ld.cs) (fun _ => rfl) (hfx _) (by simp) (by rw [show (l0 :: LL ++ [lm]).length = LL.length + 1 + 1 from by simp]; exact hbk 13 (by simp) _ rfl)⟩) ?_; intro z; obtain ⟨z1, z2⟩ := z; dsimp only)
          | ((with_reducible show CallEv _ _ 18 _ _ _ _ _); refine callF [5, 13] (fun z : Option Addr × Nat => .tuple #[.agg #[iv 0, iv 0], sV 0 z, iv 7]) (fun _ _ => True) (fun β w' hbk hbw => h18 ((some ⟨β 5, 0, none⟩, β 6), (none, 0), (some ⟨β 13, 0, none⟩, β 14)) w' ⟨Rd.of_owns (sz := 1) (f := iF) (fun _ => rfl) rfl rfl (hbk 5 (by simp) _ rfl), .inl ⟨rfl, rfl⟩, Rd.of_owns (sz := 5) (f := Ld.cs) (fun _ => rfl) (hfx _) (by simp) (by rw [show (l0 :: LL ++ [lm]).length = LL.length + 1 + 1 from by simp]; exact hbk 13 (by simp) _ rfl)⟩) ?_; intro z; obtain ⟨z1, z2⟩ := z; dsimp only)
        all_goals first | (exfalso; omega) | exact ⟨1, by omega, by omega, Ent.weak rfl ⟨rfl, rfl, rfl, rfl, trivial⟩ ⟨rfl, rfl, trivial⟩ fun _ h => h.1.1⟩
      · skip
        repeat'
         conv => whnf
         first
          | refine zA ?_ | refine zB ?_ | refine zC ?_ | refine zD ?_ | refine zE ?_ | refine zF ?_ | refine zG ?_ | refine zH ?_ | refine zJ ?_ | refine zI ?_ | refine splT ?_ | refine splF ?_ | refine splNot ?_
          | ((first | refine splIn (fun hc => ?_) (fun hc => ?_) | refine splD (fun hc => ?_) (fun hc => ?_) | refine splE (fun hc => ?_) (fun hc => ?_) | refine splNE (fun hc => ?_) (fun hc => ?_)) <;> first | (exfalso; omega) | (exfalso; dsimp only at hc; omega) | skip)
          | refine idxS env rfl rfl rfl rfl (And.intro (by omega) (by omega)) rfl rfl (.inr ⟨rfl, rfl⟩) rfl ?_
          | ((with_reducible show CallEv _ _ 15 _ _ _ _ _); refine callR [5, 6, 7, 8, 9, 10] [] (rigM 5 (p0 :: PP') ([] : List Bm) (l0 :: LL)) (rigS 5 (PP'.length + 1) ([] : List Bm) (l0 :: LL) f0 f1 f2) rfl (fun i b hi => by rcases rigM_mem hi with ⟨rfl, _⟩ | ⟨rfl, _⟩ | ⟨rfl, _⟩ <;> decide) (fun β w' _ hbw => (h30p w' ((by repeat (first | exact hbw | replace hbw := hbw.1)))).mono fun e w2 h => rig_mv h) ?_)
          | ((with_reducible show CallEv _ _ 11 _ _ _ _ _); refine callF [5, 13] (fun z : Option Addr × Nat => .tuple #[.agg #[iv 0, iv 0], sV 0 z, iv 7]) (fun _ _ => True) (fun β w' hbk hbw => h11 ((some ⟨β 5, 0, none⟩, β 6), (none, 0), (some ⟨β 13, 0, none⟩, β 14)) w' ⟨Rd.of_owns (sz := 1) (f := iF) (fun _ => rfl) rfl rfl (hbk 5 (by simp) _ rfl), .inl ⟨rfl, rfl⟩, Rd.of_owns (sz := 5) (f := Ld.cs) (fun _ => rfl) (hfx _) (by simp) (by rw [show (l0 :: LL ++ [lm]).length = LL.length + 1 + 1 from by simp]; exact hbk 13 (by simp) _ rfl)⟩) ?_; intro z; obtain ⟨z1, z2⟩ := z; dsimp only)
          | ((with_reducible show CallEv _ _ 18 _ _ _ _ _); refine callF [5, 13] (fun z : Option Addr × Nat => .tuple #[.agg #[iv 0, iv 0], sV 0 z, iv 7]) (fun _ _ => True) (fun β w' hbk hbw => h18 ((some ⟨β 5, 0, none⟩, β 6), (none, 0), (some ⟨β 13, 0, none⟩, β 14)) w' ⟨Rd.of_owns (sz := 1) (f := iF) (fun _ => rfl) rfl rfl (hbk 5 (by simp) _ rfl), .inl ⟨rfl, rfl⟩, Rd.of_owns (sz := 5) (f := Ld.cs) (fun _ => rfl) (hfx _) (by simp) (by rw [show (l0 :: LL ++ [lm]).length = LL.length + 1 + 1 from by simp]; exact hbk 13 (by simp) _ rfl)⟩) ?_; intro z; obtain ⟨z1, z2⟩ := z; dsimp only)
        all_goals first | (exfalso; omega) | exact ⟨2, by omega, by omega, Ent.weak rfl ⟨rfl, rfl, rfl, rfl, trivial⟩ ⟨rfl, rfl, trivial⟩ fun _ h => h.1.1⟩
  | cons b0 BB =>
    cases LL with
    | nil =>
      simp only [nrV, List.length_append, List.length_cons, List.length_nil] at h11 h18
      rcases hzk with ⟨rfl, rfl⟩ | ⟨rfl, rfl⟩
      · skip
        repeat'
         conv => whnf
         first
          | refine zA ?_ | refine zB ?_ | refine zC ?_ | refine zD ?_ | refine zE ?_ | refine zF ?_ | refine zG ?_ | refine zH ?_ | refine zJ ?_ | refine zI ?_ | refine splT ?_ | refine splF ?_ | refine splNot ?_
          | ((first | refine splIn (fun hc => ?_) (fun hc => ?_) | refine splD (fun hc => ?_) (fun hc => ?_) | refine splE (fun hc => ?_) (fun hc => ?_) | refine splNE (fun hc => ?_) (fun hc => ?_)) <;> first | (exfalso; omega) | (exfalso; dsimp only at hc; omega) | skip)
          | refine idxS env rfl rfl rfl rfl (And.intro (by omega) (by omega)) rfl rfl (.inr ⟨rfl, rfl⟩) rfl ?_
          | ((with_reducible show CallEv _ _ 15 _ _ _ _ _); refine callR [5, 6, 7, 8, 9, 10] [] (rigM 5 (p0 :: PP') (b0 :: BB) ([] : List Ld)) (rigS 5 (PP'.length + 1) (b0 :: BB) ([] : List Ld) f0 f1 f2) rfl (fun i b hi => by rcases rigM_mem hi with ⟨rfl, _⟩ | ⟨rfl, _⟩ | ⟨rfl, _⟩ <;> decide) (fun β w' _ hbw => (h30p w' ((by repeat (first | exact hbw | replace hbw := hbw.1)))).mono fun e w2 h => rig_mv h) ?_)
          | ((with_reducible show CallEv _ _ 11 _ _ _ _ _); refine callF [5, 7, 13] (fun z : Option Addr × Nat => .tuple #[.agg #[iv 0, iv 0], sV 0 z, iv 7]) (fun _ _ => True) (fun β w' hbk hbw => h11 ((some ⟨β 5, 0, none⟩, β 6), (some ⟨β 7, 0, none⟩, β 8), (some ⟨β 13, 0, none⟩, β 14)) w' ⟨Rd.of_owns (sz := 1) (f := iF) (fun _ => rfl) rfl rfl (hbk 5 (by simp) _ rfl), Rd.of_owns (sz := 8) (f := Bm.cs) (fun _ => rfl) rfl rfl (hbk 7 (by simp) _ rfl), Rd.of_owns (sz := 5) (f := Ld.cs) (fun _ => rfl) (hfn) (by simp) (hbk 13 (by simp) _ rfl)⟩) ?_; intro z; obtain ⟨z1, z2⟩ := z; dsimp only)
          | ((with_reducible show CallEv _ _ 18 _ _ _ _ _); refine callF [5, 7, 13] (fun z : Option Addr × Nat => .tuple #[.agg #[iv 0, iv 0], sV 0 z, iv 7]) (fun _ _ => True) (fun β w' hbk hbw => h18 ((some ⟨β 5, 0, none⟩, β 6), (some ⟨β 7, 0, none⟩, β 8), (some ⟨β 13, 0, none⟩, β 14)) w' ⟨Rd.of_owns (sz := 1) (f := iF) (fun _ => rfl) rfl rfl (hbk 5 (by simp) _ rfl), Rd.of_owns (sz := 8) (f := Bm.cs) (fun _ => rfl) rfl rfl (hbk 7 (by simp) _ rfl), Rd.of_owns (sz := 5) (f := Ld.cs) (fun _ => rfl) (hfn) (by simp) (hbk 13 (by simp) _ rfl)⟩) ?_; intro z; obtain ⟨z1, z2⟩ := z; dsimp only)
        all_goals first | (exfalso; omega) | exact ⟨1, by omega, by omega, Ent.weak rfl ⟨rfl, rfl, rfl, rfl, trivial⟩ ⟨rfl, rfl, trivial⟩ fun _ h => h.1.1⟩
      · skip
        repeat'
         conv => whnf
         first
          | refine zA ?_ | refine zB ?_ | refine zC ?_ | refine zD ?_ | refine zE ?_ | refine zF ?_ | refine zG ?_ | refine zH ?_ | refine zJ ?_ | refine zI ?_ | refine splT ?_ | refine splF ?_ | refine splNot ?_
          | ((first | refine splIn (fun hc => ?_) (fun hc => ?_) | refine splD (fun hc => ?_) (fun hc => ?_) | refine splE (fun hc => ?_) (fun hc => ?_) | refine splNE (fun hc => ?_) (fun hc => ?_)) <;> first | (exfalso; omega) | (exfalso; dsimp only at hc; omega) | skip)
          | refine idxS env rfl rfl rfl rfl (And.intro (by omega) (by omega)) rfl rfl (.inr ⟨rfl, rfl⟩) rfl ?_
          | ((with_reducible show CallEv _ _ 15 _ _ _ _ _); refine callR [5, 6, 7, 8, 9, 10] [] (rigM 5 (p0 :: PP') (b0 :: BB) ([] : List Ld)) (rigS 5 (PP'.length + 1) (b0 :: BB) ([] : List Ld) f0 f1 f2) rfl (fun i b hi => by rcases rigM_mem hi with ⟨rfl, _⟩ | ⟨rfl, _⟩ | ⟨rfl, _⟩ <;> decide) (fun β w' _ hbw => (h30p w' ((by repeat (first | exact hbw | replace hbw := hbw.1)))).mono fun e w2 h => rig_mv h) ?_)
          | ((with_reducible show CallEv _ _ 11 _ _ _ _ _); refine callF [5, 7, 13] (fun z : Option Addr × Nat => .tuple #[.agg #[iv 0, iv 0], sV 0 z, iv 7]) (fun _ _ => True) (fun β w' hbk hbw => h11 ((some ⟨β 5, 0, none⟩, β 6), (some ⟨β 7, 0, none⟩, β 8), (some ⟨β 13, 0, none⟩, β 14)) w' ⟨Rd.of_owns (sz := 1) (f := iF) (fun _ => rfl) rfl rfl (hbk 5 (by simp) _ rfl), Rd.of_owns (sz := 8) (f := Bm.cs) (fun _ => rfl) rfl rfl (hbk 7 (by simp) _ rfl), Rd.of_owns (sz := 5) (f := Ld.cs) (fun _ => rfl) (hfn) (by simp) (hbk 13 (by simp) _ rfl)⟩) ?_; intro z; obtain ⟨z1, z2⟩ := z; dsimp only)
          | ((with_reducible show CallEv _ _ 18 _ _ _ _ _); refine callF [5, 7, 13] (fun z : Option Addr × Nat => .tuple #[.agg #[iv 0, iv 0], sV 0 z, iv 7]) (fun _ _ => True) (fun β w' hbk hbw => h18 ((some ⟨β 5, 0, none⟩, β 6), (some ⟨β 7, 0, none⟩, β 8), (some ⟨β 13, 0, none⟩, β 14)) w' ⟨Rd.of_owns (sz := 1) (f := iF) (fun _ => rfl) rfl rfl (hbk 5 (by simp) _ rfl), Rd.of_owns (sz := 8) (f := Bm.cs) (fun _ => rfl) rfl rfl (hbk 7 (by simp) _ rfl), Rd.of_owns (sz := 5) (f := Ld.cs) (fun _ => rfl) (hfn) (by simp) (hbk 13 (by simp) _ rfl)⟩) ?_; intro z; obtain ⟨z1, z2⟩ := z; dsimp only)
        all_goals first | (exfalso; omega) | exact ⟨2, by omega, by omega, Ent.weak rfl ⟨rfl, rfl, rfl, rfl, trivial⟩ ⟨rfl, rfl, trivial⟩ fun _ h => h.1.1⟩
    | cons l0 LL =>
      simp only [nrV, List.length_append, List.length_cons, List.length_nil] at h11 h18
      simp only [List.length_cons] at hl19
      rcases hzk with ⟨rfl, rfl⟩ | ⟨rfl, rfl⟩
      · skip
        repeat'
         conv => whnf
         first
          | refine zA ?_ | refine zB ?_ | refine zC ?_ | refine zD ?_ | refine zE ?_ | refine zF ?_ | refine zG ?_ | refine zH ?_ | refine zJ ?_ | refine zI ?_ | refine splT ?_ | refine splF ?_ | refine splNot ?_
          | ((first | refine splIn (fun hc => ?_) (fun hc => ?_) | refine splD (fun hc => ?_) (fun hc => ?_) | refine splE (fun hc => ?_) (fun hc => ?_) | refine splNE (fun hc => ?_) (fun hc => ?_)) <;> first | (exfalso; omega) | (exfalso; dsimp only at hc; omega) | skip)
          | refine idxS env rfl rfl rfl rfl (And.intro (by omega) (by omega)) rfl rfl (.inr ⟨rfl, rfl⟩) rfl ?_
          | ((with_reducible show CallEv _ _ 15 _ _ _ _ _); refine callR [5, 6, 7, 8, 9, 10] [] (rigM 5 (p0 :: PP') (b0 :: BB) (l0 :: LL)) (rigS 5 (PP'.length + 1) (b0 :: BB) (l0 :: LL) f0 f1 f2) rfl (fun i b hi => by rcases rigM_mem hi with ⟨rfl, _⟩ | ⟨rfl, _⟩ | ⟨rfl, _⟩ <;> decide) (fun β w' _ hbw => (h30p w' ((by repeat (first | exact hbw | replace hbw := hbw.1)))).mono fun e w2 h => rig_mv h) ?_)
          | ((with_reducible show CallEv _ _ 11 _ _ _ _ _); refine callF [5, 7, 13] (fun z : Option Addr × Nat => .tuple #[.agg #[iv 0, iv 0], sV 0 z, iv 7]) (fun _ _ => True) (fun β w' hbk hbw => h11 ((some ⟨β 5, 0, none⟩, β 6), (some ⟨β 7, 0, none⟩, β 8), (some ⟨β 13, 0, none⟩, β 14)) w' ⟨Rd.of_owns (sz := 1) (f := iF) (fun _ => rfl) rfl rfl (hbk 5 (by simp) _ rfl), Rd.of_owns (sz := 8) (f := Bm.cs) (fun _ => rfl) rfl rfl (hbk 7 (by simp) _ rfl), Rd.of_owns (sz := 5) (f := Ld.cs) (fun _ => rfl) (hfx _) (by simp) (by rw [show (l0 :: LL ++ [lm]).length = LL.length + 1 + 1 from by simp]; exact hbk 13 (by simp) _ rfl)⟩) ?_; intro z; obtain ⟨z1, z2⟩ := z; dsimp only)
          | ((with_reducible show CallEv _ _ 18 _ _ _ _ _); refine callF [5, 7, 13] (fun z : Option Addr × Nat => .tuple #[.agg #[iv 0, iv 0], sV 0 z, iv 7]) (fun _ _ => True) (fun β w' hbk hbw => h18 ((some ⟨β 5, 0, none⟩, β 6), (some ⟨β 7, 0, none⟩, β 8), (some ⟨β 13, 0, none⟩, β 14)) w' ⟨Rd.of_owns (sz := 1) (f := iF) (fun _ => rfl) rfl rfl (hbk 5 (by simp) _ rfl), Rd.of_owns (sz := 8) (f := Bm.cs) (fun _ => rfl) rfl rfl (hbk 7 (by simp) _ rfl), Rd.of_owns (sz := 5) (f := Ld.cs) (fun _ => rfl) (hfx _) (by simp) (by rw [show (l0 :: LL ++ [lm]).length = LL.length + 1 + 1 from by simp]; exact hbk 13 (by simp) _ rfl)⟩) ?_; intro z; obtain ⟨z1, z2⟩ := z; dsimp only)
        all_goals first | (exfalso; omega) | exact ⟨1, by omega, by omega, Ent.weak rfl ⟨rfl, rfl, rfl, rfl, trivial⟩ ⟨rfl, rfl, trivial⟩ fun _ h => h.1.1⟩
      · skip
        repeat'
         conv => whnf
         first
          | refine zA ?_ | refine zB ?_ | refine zC ?_ | refine zD ?_ | refine zE ?_ | refine zF ?_ | refine zG ?_ | refine zH ?_ | refine zJ ?_ | refine zI ?_ | refine splT ?_ | refine splF ?_ | refine splNot ?_
          | ((first | refine splIn (fun hc => ?_) (fun hc => ?_) | refine splD (fun hc => ?_) (fun hc => ?_) | refine splE (fun hc => ?_) (fun hc => ?_) | refine splNE (fun hc => ?_) (fun hc => ?_)) <;> first | (exfalso; omega) | (exfalso; dsimp only at hc; omega) | skip)
          | refine idxS env rfl rfl rfl rfl (And.intro (by omega) (by omega)) rfl rfl (.inr ⟨rfl, rfl⟩) rfl ?_
          | ((with_reducible show CallEv _ _ 15 _ _ _ _ _); refine callR [5, 6, 7, 8, 9, 10] [] (rigM 5 (p0 :: PP') (b0 :: BB) (l0 :: LL)) (rigS 5 (PP'.length + 1) (b0 :: BB) (l0 :: LL) f0 f1 f2) rfl (fun i b hi => by rcases rigM_mem hi with ⟨rfl, _⟩ | ⟨rfl, _⟩ | ⟨rfl, _⟩ <;> decide) (fun β w' _ hbw => (h30p w' ((by repeat (first | exact hbw | replace hbw := hbw.1)))).mono fun e w2 h => rig_mv h) ?_)
          | ((with_reducible show CallEv _ _ 11 _ _ _ _ _); refine callF [5, 7, 13] (fun z : Option Addr × Nat => .tuple #[.agg #[iv 0, iv 0], sV 0 z, iv 7]) (fun _ _ => True) (fun β w' hbk hbw => h11 ((some ⟨β 5, 0, none⟩, β 6), (some ⟨β 7, 0, none⟩, β 8), (some ⟨β 13, 0, none⟩, β 14)) w' ⟨Rd.of_owns (sz := 1) (f := iF) (fun _ => rfl) rfl rfl (hbk 5 (by simp) _ rfl), Rd.of_owns (sz := 8) (f := Bm.cs) (fun _ => rfl) rfl rfl (hbk 7 (by simp) _ rfl), Rd.of_owns (sz := 5) (f := Ld.cs) (fun _ => rfl) (hfx _) (by simp) (by rw [show (l0 :: LL ++ [lm]).length = LL.length + 1 + 1 from by simp]; exact hbk 13 (by simp) _ rfl)⟩) ?_; intro z; obtain ⟨z1, z2⟩ := z; dsimp only)
          | ((with_reducible show CallEv _ _ 18 _ _ _ _ _); refine callF [5, 7, 13] (fun z : Option Addr × Nat => .tuple #[.agg #[iv 0, iv 0], sV 0 z, iv 7]) (fun _ _ => True) (fun β w' hbk hbw => h18 ((some ⟨β 5, 0, none⟩, β 6), (some ⟨β 7, 0, none⟩, β 8), (some ⟨β 13, 0, none⟩, β 14)) w' ⟨Rd.of_owns (sz := 1) (f := iF) (fun _ => rfl) rfl rfl (hbk 5 (by simp) _ rfl), Rd.of_owns (sz := 8) (f := Bm.cs) (fun _ => rfl) rfl rfl (hbk 7 (by simp) _ rfl), Rd.of_owns (sz := 5) (f := Ld.cs) (fun _ => rfl) (hfx _) (by simp) (by rw [show (l0 :: LL ++ [lm]).length = LL.length + 1 + 1 from by simp]; exact hbk 13 (by simp) _ rfl)⟩) ?_; intro z; obtain ⟨z1, z2⟩ := z; dsimp only)
        all_goals first | (exfalso; omega) | exact ⟨2, by omega, by omega, Ent.weak rfl ⟨rfl, rfl, rfl, rfl, trivial⟩ ⟨rfl, rfl, trivial⟩ fun _ h => h.1.1⟩

set_option maxHeartbeats 16000000 in
set_option maxRecDepth 100000 in
theorem TopCatcher_ok (r : Rig) (PP : List Int) (BB : List Bm) (LL : List Ld) (b a : Int) (f : Ft) (tk sf : Int) (w : World) (hX : RigX r PP BB LL w) (hC : Rd 4 Bx.cs (.slice f.co f.C.length f.cc) f.C w) (hCl : f.C.length ≤ 9223372036854775807) (htk : 0 ≤ tk ∧ tk ≤ 65535) (hsf : 0 ≤ sf ∧ sf ≤ 255) :
    Calls Try.prog 4 #[r.v, .agg #[iv b, iv a], f.v, .int .u16 tk, .int .u8 sf] w fun e w' => e = .returned (.bool true) ∧ Below w.heap.size w w' := by
  have h12 := fun (w' : World) (hb : Below w.heap.size w w') => Right_ok r PP BB LL w' (hX.below hb)
  have hln := hX.ln
  have hll := hX.ll
  by_cases hgo : (rigOk r.f0 r.f1 r.f2 PP BB LL = true ∧ LL.length ≤ 19) ∧ (f.C.length ≤ 700 ∧ ftB f = true)
  case neg =>
    by_cases hC7 : f.C.length ≤ 700
    case neg =>
      obtain ⟨po, pn, pc, bo, bn, bc, f0, f1, f2, lo, ln, lc⟩ := r
      obtain ⟨⟨p1, p2, p3, p4⟩, ⟨s1, s2, s3, s4⟩, m, co, cc, C, re, so, be, le, mo⟩ := f
      dsimp only at hln h12 hgo hC hCl hC7
      subst hln
      refine calls_val env mixed Try.func4 has4 Try.ntmps4 [.agg #[.slice po pn pc, .slice bo bn bc, iv f0, iv f1, iv f2, .slice lo LL.length lc], .agg #[iv b, iv a], .agg #[iv p1, iv p2, iv p3, iv p4, iv s1, iv s2, iv s3, iv s4, iv m, .slice co C.length cc, iv re, iv so, iv be, iv le, iv mo], .int .u16 tk, .int .u8 sf] (by simp) ?_
      cases hr : rigOk f0 f1 f2 PP BB LL with
      | false =>
        rw [hr] at h12
        repeat'
         conv => whnf
         first
          | refine zA ?_ | refine zB ?_ | refine zC ?_ | refine zD ?_ | refine zE ?_ | refine zF ?_ | refine zG ?_ | refine zH ?_ | refine zJ ?_ | refine zI ?_ | refine splT ?_ | refine splF ?_ | refine splNot ?_
          | ((first | refine splIn (fun hc => ?_) (fun hc => ?_) | refine splD (fun hc => ?_) (fun hc => ?_) | refine splE (fun hc => ?_) (fun hc => ?_) | refine splNE (fun hc => ?_) (fun hc => ?_)) <;> first | (exfalso; omega) | (exfalso; dsimp only at hc; omega) | skip)
          | ((with_reducible show CallEv _ _ 12 _ _ _ _ _); refine callE (k := 12) (fun β w' hbw => h12 _ hbw) ?_)
          | ((with_reducible show CallEv _ _ 8 _ _ _ _ _); refine callE (k := 8) (fun β w' hbw => hangs_ok _) ?_)
        all_goals first | (exfalso; omega) | exact ⟨fun β => rfl, fun w' h => h⟩
      | true =>
        rw [hr] at h12
        repeat'
         conv => whnf
         first
          | refine zA ?_ | refine zB ?_ | refine zC ?_ | refine zD ?_ | refine zE ?_ | refine zF ?_ | refine zG ?_ | refine zH ?_ | refine zJ ?_ | refine zI ?_ | refine splT ?_ | refine splF ?_ | refine splNot ?_
          | ((first | refine splIn (fun hc => ?_) (fun hc => ?_) | refine splD (fun hc => ?_) (fun hc => ?_) | refine splE (fun hc => ?_) (fun hc => ?_) | refine splNE (fun hc => ?_) (fun hc => ?_)) <;> first | (exfalso; omega) | (exfalso; dsimp only at hc; omega) | skip)
          | ((with_reducible show CallEv _ _ 12 _ _ _ _ _); refine callE (k := 12) (fun β w' hbw => h12 _ hbw) ?_)
          | ((with_reducible show CallEv _ _ 8 _ _ _ _ _); refine callE (k := 8) (fun β w' hbw => hangs_ok _) ?_)
        all_goals first | (exfalso; omega) | exact ⟨fun β => rfl, fun w' h => h⟩
    have h13 := fun (w' : World) (hb : Below w.heap.size w w') => RightF_ok f w' (hC.below hb) (by omega)
    obtain ⟨po, pn, pc, bo, bn, bc, f0, f1, f2, lo, ln, lc⟩ := r
    dsimp only at hln h12 hgo
    subst hln
    cases hr : rigOk f0 f1 f2 PP BB LL with
    | false =>
      obtain ⟨⟨p1, p2, p3, p4⟩, ⟨s1, s2, s3, s4⟩, m, co, cc, C, re, so, be, le, mo⟩ := f
      refine calls_val env mixed Try.func4 has4 Try.ntmps4 [.agg #[.slice po pn pc, .slice bo bn bc, iv f0, iv f1, iv f2, .slice lo LL.length lc], .agg #[iv b, iv a], .agg #[iv p1, iv p2, iv p3, iv p4, iv s1, iv s2, iv s3, iv s4, iv m, .slice co C.length cc, iv re, iv so, iv be, iv le, iv mo], .int .u16 tk, .int .u8 sf] (by simp) ?_
      rw [hr] at h12
      repeat'
       conv => whnf
       first
        | refine zA ?_ | refine zB ?_ | refine zC ?_ | refine zD ?_ | refine zE ?_ | refine zF ?_ | refine zG ?_ | refine zH ?_ | refine zJ ?_ | refine zI ?_ | refine splT ?_ | refine splF ?_ | refine splNot ?_
        | ((first | refine splIn (fun hc => ?_) (fun hc => ?_) | refine splD (fun hc => ?_) (fun hc => ?_) | refine splE (fun hc => ?_) (fun hc => ?_) | refine splNE (fun hc => ?_) (fun hc => ?_)) <;> first | (exfalso; omega) | (exfalso; dsimp only at hc; omega) | skip)
        | ((with_reducible show CallEv _ _ 12 _ _ _ _ _); refine callE (k := 12) (fun β w' hbw => h12 _ hbw) ?_)
        | ((with_reducible show CallEv _ _ 8 _ _ _ _ _); refine callE (k := 8) (fun β w' hbw => hangs_ok _) ?_)
      all_goals first | (exfalso; omega) | exact ⟨fun β => rfl, fun w' h => h⟩
    | true =>
      cases hq : ftB f with
      | false =>
        rw [hr] at h12
        rw [hq] at h13
        obtain ⟨⟨p1, p2, p3, p4⟩, ⟨s1, s2, s3, s4⟩, m, co, cc, C, re, so, be, le, mo⟩ := f
        dsimp only at h13 hC7
        refine calls_val env mixed Try.func4 has4 Try.ntmps4 [.agg #[.slice po pn pc, .slice bo bn bc, iv f0, iv f1, iv f2, .slice lo LL.length lc], .agg #[iv b, iv a], .agg #[iv p1, iv p2, iv p3, iv p4, iv s1, iv s2, iv s3, iv s4, iv m, .slice co C.length cc, iv re, iv so, iv be, iv le, iv mo], .int .u16 tk, .int .u8 sf] (by simp) ?_
        repeat'
         conv => whnf
         first
          | refine zA ?_ | refine zB ?_ | refine zC ?_ | refine zD ?_ | refine zE ?_ | refine zF ?_ | refine zG ?_ | refine zH ?_ | refine zJ ?_ | refine zI ?_ | refine splT ?_ | refine splF ?_ | refine splNot ?_
          | ((first | refine splIn (fun hc => ?_) (fun hc => ?_) | refine splD (fun hc => ?_) (fun hc => ?_) | refine splE (fun hc => ?_) (fun hc => ?_) | refine splNE (fun hc => ?_) (fun hc => ?_)) <;> first | (exfalso; omega) | (exfalso; dsimp only at hc; omega) | skip)
          | ((with_reducible show CallEv _ _ 12 _ _ _ _ _); refine callE (k := 12) (fun β w' hbw => h12 _ hbw) ?_)
          | ((with_reducible show CallEv _ _ 13 _ _ _ _ _); refine callE (k := 13) (fun β w' hbw => h13 _ hbw) ?_)
          | ((with_reducible show CallEv _ _ 8 _ _ _ _ _); refine callE (k := 8) (fun β w' hbw => hangs_ok _) ?_)
        all_goals first | (exfalso; omega) | exact ⟨fun β => rfl, fun w' h => h⟩
      | true =>
        rw [hr] at h12
        rw [hq] at h13
        have hl19 : ¬ LL.length ≤ 19 := fun hc => hgo ⟨⟨hr, hc⟩, hC7, hq⟩
        obtain ⟨⟨p1, p2, p3, p4⟩, ⟨s1, s2, s3, s4⟩, m, co, cc, C, re, so, be, le, mo⟩ := f
        dsimp only at h13 hC7
        refine calls_val env mixed Try.func4 has4 Try.ntmps4 [.agg #[.slice po pn pc, .slice bo bn bc, iv f0, iv f1, iv f2, .slice lo LL.length lc], .agg #[iv b, iv a], .agg #[iv p1, iv p2, iv p3, iv p4, iv s1, iv s2, iv s3, iv s4, iv m, .slice co C.length cc, iv re, iv so, iv be, iv le, iv mo], .int .u16 tk, .int .u8 sf] (by simp) ?_
        repeat'
         conv => whnf
         first
          | refine zA ?_ | refine zB ?_ | refine zC ?_ | refine zD ?_ | refine zE ?_ | refine zF ?_ | refine zG ?_ | refine zH ?_ | refine zJ ?_ | refine zI ?_ | refine splT ?_ | refine splF ?_ | refine splNot ?_
          | ((first | refine splIn (fun hc => ?_) (fun hc => ?_) | refine splD (fun hc => ?_) (fun hc => ?_) | refine splE (fun hc => ?_) (fun hc => ?_) | refine splNE (fun hc => ?_) (fun hc => ?_)) <;> first | (exfalso; omega) | (exfalso; dsimp only at hc; omega) | skip)
          | ((with_reducible show CallEv _ _ 12 _ _ _ _ _); refine callE (k := 12) (fun β w' hbw => h12 _ hbw) ?_)
          | ((with_reducible show CallEv _ _ 8 _ _ _ _ _); refine callE (k := 8) (fun β w' hbw => hangs_ok _) ?_)
        all_goals first | (exfalso; omega) | exact ⟨fun β => rfl, fun w' h => h⟩
  obtain ⟨⟨hr, hl19⟩, hC7, hq⟩ := hgo
  have h13 := fun (w' : World) (hb : Below w.heap.size w w') => RightF_ok f w' (hC.below hb) (by omega)
  rw [hq] at h13
  rw [hr] at h12
  have hpn := hX.pn
  have hbn := hX.bn
  have hri := rigOk_iff.1 hr
  have hm12 := hri.2.2.1
  have hP1 := hri.1
  have hin := hX.rin (by omega) (by omega) (by omega)
  have h14 := fun (y : (Option Addr × Nat) × (Option Addr × Nat) × (Option Addr × Nat)) (hn : LL = [] → y.2.2 = (none, 0)) (w' : World) (h : nrH PP BB LL y w') => Room_nr PP BB LL r.f0 r.f1 r.f2 r ⟨rfl, rfl, rfl⟩ b a 2 (by omega) y w' h hn (by omega) (by omega) (by omega)
  have h30o := fun (p0 : Int) (PP' : List Int) (hp : PP = p0 :: PP') (w' : World) (hb : Below w.heap.size w w') => Rig_own r p0 PP' BB LL w' (by rw [← hp]; exact hin.below hb) (by omega) (by omega)
  obtain ⟨po, pn, pc, bo, bn, bc, f0, f1, f2, lo, ln, lc⟩ := r
  obtain ⟨⟨p1, p2, p3, p4⟩, ⟨s1, s2, s3, s4⟩, m, co, cc, C, re, so, be, le, mo⟩ := f
  dsimp only at hln hpn hbn h12 h13 h14 h30o hr hC7 hC
  obtain ⟨E, hE⟩ : ∃ E, rmE ⟨po, pn, pc, bo, bn, bc, f0, f1, f2, lo, ln, lc⟩ PP BB LL b a 2 = E := ⟨_, rfl⟩
  obtain ⟨V, hV⟩ : ∃ V, rmV ⟨po, pn, pc, bo, bn, bc, f0, f1, f2, lo, ln, lc⟩ PP BB LL b a 2 = V := ⟨_, rfl⟩
  rw [hE, hV] at h14
  have hfin := CatchRest po bo lo co pn pc bn bc ln lc cc f0 f1 f2 p1 p2 p3 p4 s1 s2 s3 s4 m re so be le mo C PP BB LL b a tk sf w hX hC htk hsf hr hl19 hC7 hq E V hE hV
  clear hX hin hE hV hq
  refine calls_valV env mixed Try.func4 has4 Try.ntmps4 [.agg #[.slice po pn pc, .slice bo bn bc, iv f0, iv f1, iv f2, .slice lo ln lc], .agg #[iv b, iv a], .agg #[iv p1, iv p2, iv p3, iv p4, iv s1, iv s2, iv s3, iv s4, iv m, .slice co C.length cc, iv re, iv so, iv be, iv le, iv mo], .int .u16 tk, .int .u8 sf] (by simp) ?_
  refine VC.cutE env mixed 4 4 (fun _ : Unit => [(3, .v (.int .u16 tk)), (4, .v (.int .u8 sf)), (5, .ptr 0 0), (7, .ptr 2 0), (11, .ptr 3 0), (12, .v (iv V)), (13, .v (iv E))]) (fun _ => [(0, .cells [.v (.slice po pn pc), .v (.slice bo bn bc), .v (iv f0), .v (iv f1), .v (iv f2), .v (.slice lo ln lc)] 54), (2, .cells [.v (iv p1), .v (iv p2), .v (iv p3), .v (iv p4), .v (iv s1), .v (iv s2), .v (iv s3), .v (iv s4), .v (iv m), .v (.slice co C.length cc), .v (iv re), .v (iv so), .v (iv be), .v (iv le), .v (iv mo)] 66), (3, .cells [.v (iv b), .v (iv a)] 43)]) (fun _ => True) (fun _ _ => ⟨rfl, rfl⟩) ?_ (fun _ _ => hfin)
  clear hfin
  subst hpn
  subst hbn
  subst hln
  cases PP with
  | nil => exact absurd hP1.1 (by simp)
  | cons p0 PP =>
  have h30p := h30o p0 PP rfl
  clear h30o
  cases BB with
  | nil =>
    cases LL with
    | nil =>
      skip
      repeat'
       conv => whnf
       first
        | refine zA ?_ | refine zB ?_ | refine zC ?_ | refine zD ?_ | refine zE ?_ | refine zF ?_ | refine zG ?_ | refine zH ?_ | refine zJ ?_ | refine zI ?_ | refine splT ?_ | refine splF ?_ | refine splNot ?_
        | ((first | refine splIn (fun hc => ?_) (fun hc => ?_) | refine splD (fun hc => ?_) (fun hc => ?_) | refine splE (fun hc => ?_) (fun hc => ?_) | refine splNE (fun hc => ?_) (fun hc => ?_)) <;> first | (exfalso; omega) | (exfalso; dsimp only at hc; omega) | skip)
        | ((with_reducible show CallEv _ _ 12 _ _ _ _ _); refine callE (k := 12) (fun β w' hbw => h12 _ hbw) ?_)
        | ((with_reducible show CallEv _ _ 13 _ _ _ _ _); refine callE (k := 13) (fun β w' hbw => h13 _ hbw) ?_)
        | ((with_reducible show CallEv _ _ 15 _ _ _ _ _); refine callR [4, 5, 6, 7, 8, 9] [] (rigM 4 (p0 :: PP) ([] : List Bm) ([] : List Ld)) (rigS 4 (PP.length + 1) ([] : List Bm) ([] : List Ld) f0 f1 f2) rfl (fun i b hi => by rcases rigM_mem hi with ⟨rfl, _⟩ | ⟨rfl, _⟩ | ⟨rfl, _⟩ <;> decide) (fun β w' _ hbw => (h30p w' hbw).mono fun e w2 h => rig_mv h) ?_)
        | ((with_reducible show CallEv _ _ 14 _ _ _ _ _); refine callM (k := 14) [4] (fun β w' hbk hbw => h14 ((some ⟨β 4, 0, none⟩, β 5), (none, 0), (none, 0)) (fun _ => rfl) w' ⟨Rd.of_owns (sz := 1) (f := iF) (fun _ => rfl) rfl rfl (hbk 4 (by simp) _ rfl), .inl ⟨rfl, rfl⟩, .inl ⟨rfl, rfl⟩⟩) ?_)
      all_goals first | (exfalso; omega) | (exfalso; simp only [List.length_cons, List.length_nil] at *; omega) | exact ⟨rfl, (), trivial, Ent.weak rfl ⟨rfl, rfl, rfl, rfl, rfl, rfl, rfl, trivial⟩ ⟨rfl, rfl, rfl, trivial⟩ fun _ h => h⟩
    | cons l0 LL =>
      simp only [List.length_cons] at hl19
      skip
      repeat'
       conv => whnf
       first
        | refine zA ?_ | refine zB ?_ | refine zC ?_ | refine zD ?_ | refine zE ?_ | refine zF ?_ | refine zG ?_ | refine zH ?_ | refine zJ ?_ | refine zI ?_ | refine splT ?_ | refine splF ?_ | refine splNot ?_
        | ((first | refine splIn (fun hc => ?_) (fun hc => ?_) | refine splD (fun hc => ?_) (fun hc => ?_) | refine splE (fun hc => ?_) (fun hc => ?_) | refine splNE (fun hc => ?_) (fun hc => ?_)) <;> first | (exfalso; omega) | (exfalso; dsimp only at hc; omega) | skip)
        | ((with_reducible show CallEv _ _ 12 _ _ _ _ _); refine callE (k := 12) (fun β w' hbw => h12 _ hbw) ?_)
        | ((with_reducible show CallEv _ _ 13 _ _ _ _ _); refine callE (k := 13) (fun β w' hbw => h13 _ hbw) ?_)
        | ((with_reducible show CallEv _ _ 15 _ _ _ _ _); refine callR [4, 5, 6, 7, 8, 9] [] (rigM 4 (p0 :: PP) ([] : List Bm) (l0 :: LL)) (rigS 4 (PP.length + 1) ([] : List Bm) (l0 :: LL) f0 f1 f2) rfl (fun i b hi => by rcases rigM_mem hi with ⟨rfl, _⟩ | ⟨rfl, _⟩ | ⟨rfl, _⟩ <;> decide) (fun β w' _ hbw => (h30p w' hbw).mono fun e w2 h => rig_mv h) ?_)
        | ((with_reducible show CallEv _ _ 14 _ _ _ _ _); refine callM (k := 14) [4, 8] (fun β w' hbk hbw => h14 ((some ⟨β 4, 0, none⟩, β 5), (none, 0), (some ⟨β 8, 0, none⟩, β 9)) (fun hc => (by cases hc)) w' ⟨Rd.of_owns (sz := 1) (f := iF) (fun _ => rfl) rfl rfl (hbk 4 (by simp) _ rfl), .inl ⟨rfl, rfl⟩, Rd.of_owns (sz := 5) (f := Ld.cs) (fun _ => rfl) rfl rfl (hbk 8 (by simp) _ rfl)⟩) ?_)
      all_goals first | (exfalso; omega) | (exfalso; simp only [List.length_cons, List.length_nil] at *; omega) | exact ⟨rfl, (), trivial, Ent.weak rfl ⟨rfl, rfl, rfl, rfl, rfl, rfl, rfl, trivial⟩ ⟨rfl, rfl, rfl, trivial⟩ fun _ h => h⟩
  | cons b0 BB =>
    cases LL with
    | nil =>
      skip
      repeat'
       conv => whnf
       first
        | refine zA ?_ | refine zB ?_ | refine zC ?_ | refine zD ?_ | refine zE ?_ | refine zF ?_ | refine zG ?_ | refine zH ?_ | refine zJ ?_ | refine zI ?_ | refine splT ?_ | refine splF ?_ | refine splNot ?_
        | ((first | refine splIn (fun hc => ?_) (fun hc => ?_) | refine splD (fun hc => ?_) (fun hc => ?_) | refine splE (fun hc => ?_) (fun hc => ?_) | refine splNE (fun hc => ?_) (fun hc => ?_)) <;> first | (exfalso; omega) | (exfalso; dsimp only at hc; omega) | skip)
        | ((with_reducible show CallEv _ _ 12 _ _ _ _ _); refine callE (k := 12) (fun β w' hbw => h12 _ hbw) ?_)
        | ((with_reducible show CallEv _ _ 13 _ _ _ _ _); refine callE (k := 13) (fun β w' hbw => h13 _ hbw) ?_)
        | ((with_reducible show CallEv _ _ 15 _ _ _ _ _); refine callR [4, 5, 6, 7, 8, 9] [] (rigM 4 (p0 :: PP) (b0 :: BB) ([] : List Ld)) (rigS 4 (PP.length + 1) (b0 :: BB) ([] : List Ld) f0 f1 f2) rfl (fun i b hi => by rcases rigM_mem hi with ⟨rfl, _⟩ | ⟨rfl, _⟩ | ⟨rfl, _⟩ <;> decide) (fun β w' _ hbw => (h30p w' hbw).mono fun e w2 h => rig_mv h) ?_)
        | ((with_reducible show CallEv _ _ 14 _ _ _ _ _); refine callM (k := 14) [4, 6] (fun β w' hbk hbw => h14 ((some ⟨β 4, 0, none⟩, β 5), (some ⟨β 6, 0, none⟩, β 7), (none, 0)) (fun _ => rfl) w' ⟨Rd.of_owns (sz := 1) (f := iF) (fun _ => rfl) rfl rfl (hbk 4 (by simp) _ rfl), Rd.of_owns (sz := 8) (f := Bm.cs) (fun _ => rfl) rfl rfl (hbk 6 (by simp) _ rfl), .inl ⟨rfl, rfl⟩⟩) ?_)
      all_goals first | (exfalso; omega) | (exfalso; simp only [List.length_cons, List.length_nil] at *; omega) | exact ⟨rfl, (), trivial, Ent.weak rfl ⟨rfl, rfl, rfl, rfl, rfl, rfl, rfl, trivial⟩ ⟨rfl, rfl, rfl, trivial⟩ fun _ h => h⟩
    | cons l0 LL =>
      simp only [List.length_cons] at hl19
      skip
      repeat'
       conv => whnf
       first
        | refine zA ?_ | refine zB ?_ | refine zC ?_ | refine zD ?_ | refine zE ?_ | refine zF ?_ | refine zG ?_ | refine zH ?_ | refine zJ ?_ | refine zI ?_ | refine splT ?_ | refine splF ?_ | refine splNot ?_
        | ((first | refine splIn (fun hc => ?_) (fun hc => ?_) | refine splD (fun hc => ?_) (fun hc => ?_) | refine splE (fun hc => ?_) (fun hc => ?_) | refine splNE (fun hc => ?_) (fun hc => ?_)) <;> first | (exfalso; omega) | (exfalso; dsimp only at hc; omega) | skip)
        | ((with_reducible show CallEv _ _ 12 _ _ _ _ _); refine callE (k := 12) (fun β w' hbw => h12 _ hbw) ?_)
        | ((with_reducible show CallEv _ _ 13 _ _ _ _ _); refine callE (k := 13) (fun β w' hbw => h13 _ hbw) ?_)
        | ((with_reducible show CallEv _ _ 15 _ _ _ _ _); refine callR [4, 5, 6, 7, 8, 9] [] (rigM 4 (p0 :: PP) (b0 :: BB) (l0 :: LL)) (rigS 4 (PP.length + 1) (b0 :: BB) (l0 :: LL) f0 f1 f2) rfl (fun i b hi => by rcases rigM_mem hi with ⟨rfl, _⟩ | ⟨rfl, _⟩ | ⟨rfl, _⟩ <;> decide) (fun β w' _ hbw => (h30p w' hbw).mono fun e w2 h => rig_mv h) ?_)
        | ((with_reducible show CallEv _ _ 14 _ _ _ _ _); refine callM (k := 14) [4, 6, 8] (fun β w' hbk hbw => h14 ((some ⟨β 4, 0, none⟩, β 5), (some ⟨β 6, 0, none⟩, β 7), (some ⟨β 8, 0, none⟩, β 9)) (fun hc => (by cases hc)) w' ⟨Rd.of_owns (sz := 1) (f := iF) (fun _ => rfl) rfl rfl (hbk 4 (by simp) _ rfl), Rd.of_owns (sz := 8) (f := Bm.cs) (fun _ => rfl) rfl rfl (hbk 6 (by simp) _ rfl), Rd.of_owns (sz := 5) (f := Ld.cs) (fun _ => rfl) rfl rfl (hbk 8 (by simp) _ rfl)⟩) ?_)
      all_goals first | (exfalso; omega) | (exfalso; simp only [List.length_cons, List.length_nil] at *; omega) | exact ⟨rfl, (), trivial, Ent.weak rfl ⟨rfl, rfl, rfl, rfl, rfl, rfl, rfl, trivial⟩ ⟨rfl, rfl, rfl, trivial⟩ fun _ h => h⟩
end Go.Proofs.Ytfbokllafdnglaa
