/- SchoolGroups: the hours of each child of the group are covered. -/
import Derived.Test.YtpleibfohjbneaaGreatSR
namespace Go.Proofs.YtpleibfohjbneaaGreat
open Go Tx Go.RowKit
set_option linter.unusedSimpArgs false
set_option linter.unusedVariables false

def hdC : Code → Code | .seq a _ => a | c => c
def tlC : Code → Code | .seq _ b => b | c => c
def inC : Code → Code | .block _ c => c | .loop c => c | c => c
def opsC : Code → Array Oper | .region _ ops _ => ops | _ => #[]
noncomputable def c8 : Code := rest 2 (rest 1 (rest 1 (rest 4 body11)))
/-- The loop's body. -/
noncomputable def c8b : Code := inC (inC (tlC (hdC c8)))
noncomputable def c8t : Code := tlC c8b
noncomputable def c8i : Code := inC (hdC c8t)
theorem c8_eq : c8 = .seq (.seq (hdC (hdC c8)) (.block 4 (.loop (.seq (hdC c8b) (.seq (.block 5 (.seq (.region 22 (opsC (hdC c8i)) true) (tlC c8i))) (tlC c8t)))))) (tlC c8) := by kernel_rfl

theorem Ent.ap {σ σ' : Sg} {X : Cx} {a : Act} {w : World} (h : Sat X σ a w) (e : Ent σ σ') : Sat X σ' a w := e X a w h
theorem Next_at {N : List Int} {wk : Int} {CC : List (List Int)} {SS : List (Int × List Int)} (hz : SzOk N CC SS) (h0 : nxE N wk CC SS = 0) (h1 : 1 ≤ N.length) (y : (Option Addr × Nat) × Rws CC) (z : SyF SS) (w : World) (h : crH N y w) (h' : z.In w) :
    Calls Tryz.prog 33 #[.agg #[.slice y.1.1 N.length y.1.2, iv wk, .slice y.2.o y.2.C.length y.2.c], .slice z.o z.S.length z.c] w fun e w' => ∃ u : Addr × Nat, e = .returned (.tuple #[.slice (some u.1) N.length u.2, iv 0]) ∧ Below w.heap.size w w' ∧
    St w.heap.size (Rd 1 iF (.slice (some u.1) N.length u.2) ((List.range N.length).map (nxV N wk CC SS))) w' := by
  obtain ⟨⟨n1, n2⟩, c1, c2, C1, hC⟩ := y
  obtain ⟨s1, s2, S1, hS⟩ := z
  have hn := Next_nr (wk := wk) hz n1 n2 c1 c2 C1 hC s1 s2 S1 hS w h h'
  have hl : ((List.range N.length).map (nxV N wk CC SS)).length = N.length := by simp
  rw [h0, show nxtL N wk CC SS = (List.range N.length).map (nxV N wk CC SS) from by unfold nxtL; rw [if_pos h0], hl] at hn
  refine hn.mono fun e w' ⟨⟨u1, u2⟩, e1, e2, e3⟩ => ?_
  have h2 := e3 w' (Keep.refl _ _)
  have h2 : Rd 1 iF (.slice u1 ((List.range N.length).map (nxV N wk CC SS)).length u2) ((List.range N.length).map (nxV N wk CC SS)) w' := by rw [hl]; exact h2
  obtain ⟨_, a1, rfl, _⟩ := h2.ptr (by omega)
  exact ⟨(a1, u2), e1, e2, e3⟩

set_option maxHeartbeats 8000000 in
set_option maxRecDepth 100000 in
theorem Gr8 (no : Option Addr) (nc : Nat) (N : List Int) (wk : Int) (co : Option Addr) (cc : Nat) (C : List Rw) (o : Option Addr) (c : Nat) (K : List Kd) (go : Option Addr) (gc : Nat) (xs : List Int) (n : Int) (w : World) (y : (Addr × Nat) × (Addr × Nat)) (hX : CrIn ⟨no, nc, N, wk, co, cc, C⟩ w) (hK : KdIn o c K w) (hg : Rd 1 iF (.slice go xs.length gc) xs w) (hc : crOk N wk (C.map Rw.xs) = true) (hx45 : xs.length ≤ 45) (hj : jfE N.length (C.map Rw.xs).length wk (K.map Kd.d) (xs ++ [n]) = 0) : VC Tryz.prog c8 (gS8 no nc N wk co cc C o c K go gc xs n w y) (endΦ env Tryz.f11 fun s σ => (∀ β, s.c β = .bool true) ∧ ∀ w', σ.h w' → Below w.heap.size w w') := by
  have h30 := fun w' hb => Course_nr ⟨no, nc, N, wk, co, cc, C⟩ w' (hX.below hb)
  dsimp only at h30
  have hnl : N.length ≤ 1000000 := hX.nl
  have hok := JnOk.of hc (jfE_init hj)
  have hN1 : 1 ≤ N.length := by
    have := hok.c
    simp only [crOk, inB, Bool.and_eq_true, decide_eq_true_eq] at this
    omega
  have hR1 : (jnR N wk (C.map Rw.xs) (K.map Kd.d) xs).length = N.length := jnR_len ..
  have hK1 := hK.k
  rw [c8_eq]
  refine VC.seq (f := fun σ' => Ent σ' (⟨204, [(1, .v (.slice o K.length c)), (2, .v (.slice go xs.length gc)), (4, .ptr 0 0), (10, .v (.slice (some y.1.1) 1 y.1.2))], [(0, .cells [.v (.slice no N.length nc), .v (iv wk), .v (.slice co C.length cc)] 56)], 1, fun w2 => Below w.heap.size w w2 ∧ jyH (jnR N wk (C.map Rw.xs) (K.map Kd.d) xs) y w2, z0⟩ : Sg)) ?_ (fun σ' hσ' => VC.ent (VC.of env mixed ?_) hσ' (okB rfl rfl rfl))
  rotate_left
  · skip
    repeat'
     conv => whnf
     first
      | refine zA ?_ | refine zB ?_ | refine zC ?_ | refine zD ?_ | refine zE ?_ | refine zF ?_ | refine zG ?_ | refine zH ?_ | refine zJ ?_ | refine zI ?_ | refine splT ?_ | refine splF ?_ | refine splNot ?_
      | ((first | refine splIn (fun hc => ?_) (fun hc => ?_) | refine splD (fun hc => ?_) (fun hc => ?_) | refine splE (fun hc => ?_) (fun hc => ?_) | refine splNE (fun hc => ?_) (fun hc => ?_)) <;> first | (exfalso; omega) | (exfalso; dsimp only at hc; omega) | skip)
      | ((with_reducible show CallEv _ _ 16 _ _ _ _ _); refine callE (k := 16) (fun β w' hbw => awake_calls w') ?_)
    all_goals first | (exfalso; omega) | exact ⟨fun β => rfl, fun w' h => h.1⟩
  refine VC.seq (f := fun σ' => Ent σ' (⟨204, [(1, .v (.slice o K.length c)), (2, .v (.slice go xs.length gc)), (4, .ptr 0 0), (10, .v (.slice (some y.1.1) 1 y.1.2)), (15, .v (iv (0 : Nat)))], [(0, .cells [.v (.slice no N.length nc), .v (iv wk), .v (.slice co C.length cc)] 56)], 1, fun w2 => Below w.heap.size w w2 ∧ jyH (jnR N wk (C.map Rw.xs) (K.map Kd.d) xs) y w2, z0⟩ : Sg)) (VC.of env mixed ?_) (fun σ' hσ' => VC.ent ?_ hσ' (okB rfl rfl rfl))
  · skip
    repeat'
     conv => whnf
     first
      | refine zA ?_ | refine zB ?_ | refine zC ?_ | refine zD ?_ | refine zE ?_ | refine zF ?_ | refine zG ?_ | refine zH ?_ | refine zJ ?_ | refine zI ?_ | refine splT ?_ | refine splF ?_ | refine splNot ?_
      | ((first | refine splIn (fun hc => ?_) (fun hc => ?_) | refine splD (fun hc => ?_) (fun hc => ?_) | refine splE (fun hc => ?_) (fun hc => ?_) | refine splNE (fun hc => ?_) (fun hc => ?_)) <;> first | (exfalso; omega) | (exfalso; dsimp only at hc; omega) | skip)
    all_goals first | (exfalso; omega) | exact Ent.weak rfl ⟨rfl, rfl, rfl, rfl, rfl, trivial⟩ ⟨rfl, trivial⟩ fun _ h => h
  clear hσ' σ'
  refine VC.block (VC.loop Nat (fun i => (⟨204, [(1, .v (.slice o K.length c)), (2, .v (.slice go xs.length gc)), (4, .ptr 0 0), (10, .v (.slice (some y.1.1) 1 y.1.2)), (15, .v (iv i))], [(0, .cells [.v (.slice no N.length nc), .v (iv wk), .v (.slice co C.length cc)] 56)], 1, fun w2 => Below w.heap.size w w2 ∧ jyH (jnR N wk (C.map Rw.xs) (K.map Kd.d) xs) y w2, z0⟩ : Sg)) (fun i => i ≤ xs.length) (fun i => xs.length - i) (fun X a w h => ⟨0, Nat.zero_le _, h⟩) ?_)
  intro i hi
  refine ⟨okB rfl rfl rfl, ?_⟩
  rcases Nat.lt_or_ge i xs.length with hil | hil
  · refine VC.seq (f := fun σ' => Ent σ' (⟨204, [(1, .v (.slice o K.length c)), (2, .v (.slice go xs.length gc)), (4, .ptr 0 0), (10, .v (.slice (some y.1.1) 1 y.1.2)), (15, .v (iv i))], [(0, .cells [.v (.slice no N.length nc), .v (iv wk), .v (.slice co C.length cc)] 56)], 1, fun w2 => Below w.heap.size w w2 ∧ jyH (jnR N wk (C.map Rw.xs) (K.map Kd.d) xs) y w2, z0⟩ : Sg)) (VC.of env mixed ?_) (fun σ' hσ' => VC.ent ?_ hσ' (okB rfl rfl rfl))
    · skip
      repeat'
       conv => whnf
       first
        | refine zA ?_ | refine zB ?_ | refine zC ?_ | refine zD ?_ | refine zE ?_ | refine zF ?_ | refine zG ?_ | refine zH ?_ | refine zJ ?_ | refine zI ?_ | refine splT ?_ | refine splF ?_ | refine splNot ?_
        | ((first | refine splIn (fun hc => ?_) (fun hc => ?_) | refine splD (fun hc => ?_) (fun hc => ?_) | refine splE (fun hc => ?_) (fun hc => ?_) | refine splNE (fun hc => ?_) (fun hc => ?_)) <;> first | (exfalso; omega) | (exfalso; dsimp only at hc; omega) | skip)
      all_goals first | (exfalso; omega) | exact Ent.weak rfl ⟨rfl, rfl, rfl, rfl, rfl, trivial⟩ ⟨rfl, trivial⟩ fun _ h => h
    clear hσ' σ'
    refine VC.seq (f := fun σ' => Ent σ' (⟨204, [(1, .v (.slice o K.length c)), (2, .v (.slice go xs.length gc)), (4, .ptr 0 0), (10, .v (.slice (some y.1.1) 1 y.1.2)), (15, .v (iv i))], [(0, .cells [.v (.slice no N.length nc), .v (iv wk), .v (.slice co C.length cc)] 56)], 1, fun w2 => Below w.heap.size w w2 ∧ jyH (jnR N wk (C.map Rw.xs) (K.map Kd.d) xs) y w2, z0⟩ : Sg)) (VC.block ?_) (fun σ' hσ' => VC.ent (VC.of env mixed ?_) hσ' (okB rfl rfl rfl))
    rotate_left
    · skip
      repeat'
       conv => whnf
       first
        | refine zA ?_ | refine zB ?_ | refine zC ?_ | refine zD ?_ | refine zE ?_ | refine zF ?_ | refine zG ?_ | refine zH ?_ | refine zJ ?_ | refine zI ?_ | refine splT ?_ | refine splF ?_ | refine splNot ?_
        | ((first | refine splIn (fun hc => ?_) (fun hc => ?_) | refine splD (fun hc => ?_) (fun hc => ?_) | refine splE (fun hc => ?_) (fun hc => ?_) | refine splNE (fun hc => ?_) (fun hc => ?_)) <;> first | (exfalso; omega) | (exfalso; dsimp only at hc; omega) | skip)
      exact fun X a w1 h => ⟨i + 1, ⟨by omega, by omega⟩, Ent.ap h (Ent.weak rfl ⟨rfl, rfl, rfl, rfl, rfl, trivial⟩ ⟨rfl, trivial⟩ fun _ h => h)⟩
    obtain ⟨v, hv⟩ : ∃ b, xs[i]? = some b := ⟨_, List.getElem?_eq_getElem hil⟩
    have hvr := gOk_at hok.g hv
    obtain ⟨q, rfl⟩ := Int.eq_ofNat_of_zero_le hvr.1
    have hkm : (K.map Kd.d).length = K.length := List.length_map ..
    have hq : q < K.length := by omega
    obtain ⟨_, adr, rfl, _⟩ := hg.ptr (by omega)
    have en := fun (w' : World) hw' => rd_ati (hg.below (w' := w') hw') hv
    obtain ⟨⟨ko, kc, S⟩, hx⟩ : ∃ b, K[q]? = some b := ⟨_, List.getElem?_eq_getElem hq⟩
    obtain ⟨_, adk, rfl, _⟩ := hK1.ptr (by omega)
    have ek := fun (w' : World) hw' => rd_ati (hK1.below (w' := w') hw') hx
    have hkd : (K.map Kd.d)[q]? = some (S.map Sy.d) := by rw [List.getElem?_map, hx]; rfl
    have hSk := hK.s _ (List.mem_of_getElem? hx)
    have h31 := fun w' hb => Stays_ok ko kc S w' (hSk.below hb)
    have h33 := @Next_at N wk (C.map Rw.xs) (S.map Sy.d) (SzOk.of hX hSk) (jfE_ck hc hj hkd) hN1

    have hbd : ∀ j, j < N.length → ∃ a, ((List.range N.length).map (nxV N wk (C.map Rw.xs) (S.map Sy.d)))[j]? = some a ∧ ∃ b, (jnR N wk (C.map Rw.xs) (K.map Kd.d) xs)[j]? = some b ∧ a ≤ b := fun j hjl => ⟨_, by simp [hjl]; rfl, _, jnR_at hjl, by
      have := jnV_ge (N := N) (wk := wk) (CC := C.map Rw.xs) (KK := K.map Kd.d) (j := j) (List.mem_of_getElem? hv)
      unfold kid at this
      rwa [Int.toNat_natCast, hkd] at this⟩
    refine VC.seq (f := fun σ' => VC Tryz.prog (tlC c8i) σ' _) ?_ (fun _ h => h)
    apply VC_reg3 env mixed 1 9 10 (fun y : (Option Addr × Nat) × Rws (C.map Rw.xs) => .agg #[.slice y.1.1 N.length y.1.2, iv wk, .slice y.2.o y.2.C.length y.2.c]) (fun y => crH N y) (fun z : SyF (S.map Sy.d) => .slice z.o z.S.length z.c) (fun z => z.In) (fun u : Addr × Nat => .tuple #[.slice (some u.1) N.length u.2, iv 0]) (fun u w2 => Rd 1 iF (.slice (some u.1) N.length u.2) ((List.range N.length).map (nxV N wk (C.map Rw.xs) (S.map Sy.d))) w2) ((none, 0), ⟨none, 0, C, rfl⟩) ⟨none, 0, S, rfl⟩ (adk, 0)
    case h12 => decide
    case h23 => decide
    case h3 => exact Nat.le_of_ble_eq_true (by kernel_rfl)
    case hd12 => kernel_rfl
    case hd13 => kernel_rfl
    case hd23 => kernel_rfl
    case hv =>
      intro y1 y2 y3
      repeat'
       conv => whnf
       first
        | refine zA ?_ | refine zB ?_ | refine zC ?_ | refine zD ?_ | refine zE ?_ | refine zF ?_ | refine zG ?_ | refine zH ?_ | refine zJ ?_ | refine zI ?_ | refine splT ?_ | refine splF ?_ | refine splNot ?_
        | ((first | refine splIn (fun hc => ?_) (fun hc => ?_) | refine splD (fun hc => ?_) (fun hc => ?_) | refine splE (fun hc => ?_) (fun hc => ?_) | refine splNE (fun hc => ?_) (fun hc => ?_)) <;> first | (exfalso; omega) | (exfalso; dsimp only at hc; omega) | skip)
        | refine Exists.intro (α := List Value) [iv q] ⟨⟨rfl, fun w' hw' => en w' hw'.1⟩, ?_⟩
        | refine Exists.intro (α := List Value) [.slice ko S.length kc] ⟨⟨rfl, fun w' hw' => ek w' hw'.1⟩, ?_⟩
        | refine And.intro (a := (_ : Bool) = true ∧ (_ : List _) = [] ∧ (_ : List _) = []) ⟨rfl, rfl, rfl⟩ ?_
        | (with_reducible show FamEv _ _ _ 30 _ _ _); refine FamEv.mk [] (fun β w' _ hbw => h30 w' (by first | exact hbw | exact hbw.1 | exact hbw.1.1 | exact hbw.1.1.1 | exact hbw.1.1.1.1 | exact hbw.1.1.1.1.1 | exact hbw.1.1.1.1.1.1 | exact hbw.1.1.1.1.1.1.1 | exact hbw.1.1.1.1.1.1.1.1 | exact hbw.1.1.1.1.1.1.1.1.1 | exact hbw.1.1.1.1.1.1.1.1.1.1 | exact hbw.1.1.1.1.1.1.1.1.1.1.1 | exact hbw.1.1.1.1.1.1.1.1.1.1.1.1 | exact hbw.1.1.1.1.1.1.1.1.1.1.1.1.1)) ?_
        | (with_reducible show FamEv _ _ _ 31 _ _ _); refine FamEv.mk [] (fun β w' _ hbw => h31 w' (by first | exact hbw | exact hbw.1 | exact hbw.1.1 | exact hbw.1.1.1 | exact hbw.1.1.1.1 | exact hbw.1.1.1.1.1 | exact hbw.1.1.1.1.1.1 | exact hbw.1.1.1.1.1.1.1 | exact hbw.1.1.1.1.1.1.1.1 | exact hbw.1.1.1.1.1.1.1.1.1 | exact hbw.1.1.1.1.1.1.1.1.1.1 | exact hbw.1.1.1.1.1.1.1.1.1.1.1 | exact hbw.1.1.1.1.1.1.1.1.1.1.1.1 | exact hbw.1.1.1.1.1.1.1.1.1.1.1.1.1)) ?_
        | (with_reducible show FamEv _ _ _ 33 _ _ _); refine FamEv.mk [] (fun β w' _ hbw => h33 y1 y2 w' hbw.1.2 hbw.2) ?_
      refine ⟨rfl, VC.of env mixed ?_⟩
      clear h30 h31 h33 en ek
      obtain ⟨⟨ya, yb⟩, yc, yd⟩ := y
      repeat'
       conv => whnf
       first
        | refine zA ?_ | refine zB ?_ | refine zC ?_ | refine zD ?_ | refine zE ?_ | refine zF ?_ | refine zG ?_ | refine zH ?_ | refine zJ ?_ | refine zI ?_ | refine splT ?_ | refine splF ?_ | refine splNot ?_
        | ((first | refine splIn (fun hc => ?_) (fun hc => ?_) | refine splD (fun hc => ?_) (fun hc => ?_) | refine splE (fun hc => ?_) (fun hc => ?_) | refine splNE (fun hc => ?_) (fun hc => ?_)) <;> first | (exfalso; omega) | (exfalso; dsimp only at hc; omega) | skip)
      all_goals first | (exfalso; omega) | skip
      refine loopE (fun k : Nat => [(1, .v (.slice (some adk) K.length c)), (2, .v (.slice (some adr) xs.length gc)), (4, .ptr 0 0), (10, .v (.slice (some ya) 1 yb)), (15, .v (iv i)), (16, .v (.slice (some y3.1) N.length y3.2)), (18, .v (iv k))]) (fun _ => [(0, .cells [.v (.slice no N.length nc), .v (iv wk), .v (.slice co C.length cc)] 56)]) (fun k => k ≤ N.length) (fun k => N.length - k) 0 (Nat.zero_le _) ⟨rfl, rfl, rfl, rfl, rfl, rfl, rfl, trivial⟩ ⟨rfl, trivial⟩ (fun _ => ⟨rfl, rfl⟩) ?_
      intro k hk
      rcases Nat.lt_or_ge k N.length with hkl | hkl
      · obtain ⟨a, ha, b, hb, hab⟩ := hbd k hkl
        have hgt : ¬ a > b := by omega
        repeat'
         conv => whnf
         first
          | refine zA ?_ | refine zB ?_ | refine zC ?_ | refine zD ?_ | refine zE ?_ | refine zF ?_ | refine zG ?_ | refine zH ?_ | refine zJ ?_ | refine zI ?_ | refine splT ?_ | refine splF ?_ | refine splNot ?_
          | ((first | refine splIn (fun hc => ?_) (fun hc => ?_) | refine splD (fun hc => ?_) (fun hc => ?_) | refine splE (fun hc => ?_) (fun hc => ?_) | refine splNE (fun hc => ?_) (fun hc => ?_)) <;> first | (exfalso; omega) | (exfalso; dsimp only at hc; omega) | skip)
          | refine Exists.intro (α := List Value) [iv a] ⟨⟨rfl, fun w' hw' => rd_ati hw'.2 ha⟩, ?_⟩
          | refine Exists.intro (α := List Value) [.slice (some yc) N.length yd] ⟨⟨rfl, fun w' hw' => jy_row hw'.1.1.1.2 hR1⟩, ?_⟩
          | refine Exists.intro (α := List Value) [iv b] ⟨⟨rfl, fun w' hw' => jy_at hw'.1.1.1.2 hb⟩, ?_⟩
        all_goals first | (exfalso; omega) | exact ⟨k + 1, by omega, by omega, Ent.weak rfl ⟨rfl, rfl, rfl, rfl, rfl, rfl, rfl, trivial⟩ ⟨rfl, trivial⟩ fun _ h => h⟩
      · skip
        repeat'
         conv => whnf
         first
          | refine zA ?_ | refine zB ?_ | refine zC ?_ | refine zD ?_ | refine zE ?_ | refine zF ?_ | refine zG ?_ | refine zH ?_ | refine zJ ?_ | refine zI ?_ | refine splT ?_ | refine splF ?_ | refine splNot ?_
          | ((first | refine splIn (fun hc => ?_) (fun hc => ?_) | refine splD (fun hc => ?_) (fun hc => ?_) | refine splE (fun hc => ?_) (fun hc => ?_) | refine splNE (fun hc => ?_) (fun hc => ?_)) <;> first | (exfalso; omega) | (exfalso; dsimp only at hc; omega) | skip)
        all_goals first | (exfalso; omega) | exact Ent.weak rfl ⟨rfl, rfl, rfl, rfl, rfl, trivial⟩ ⟨rfl, trivial⟩ fun _ h => h.1.1.1
    case hk1 => intros; rfl
    case hk2 => intros; rfl
    case hk3 => intros; rfl
    all_goals intros
    all_goals repeat' (first | exact trivial | refine And.intro (.inr rfl) ?_ | refine And.intro (.inl (by kernel_rfl)) ?_)
  · refine VC.of env mixed ?_
    repeat'
     conv => whnf
     first
      | refine zA ?_ | refine zB ?_ | refine zC ?_ | refine zD ?_ | refine zE ?_ | refine zF ?_ | refine zG ?_ | refine zH ?_ | refine zJ ?_ | refine zI ?_ | refine splT ?_ | refine splF ?_ | refine splNot ?_
      | ((first | refine splIn (fun hc => ?_) (fun hc => ?_) | refine splD (fun hc => ?_) (fun hc => ?_) | refine splE (fun hc => ?_) (fun hc => ?_) | refine splNE (fun hc => ?_) (fun hc => ?_)) <;> first | (exfalso; omega) | (exfalso; dsimp only at hc; omega) | skip)
    all_goals first | (exfalso; omega) | exact Ent.weak rfl ⟨rfl, rfl, rfl, rfl, trivial⟩ ⟨rfl, trivial⟩ fun _ h => h
end Go.Proofs.YtpleibfohjbneaaGreat
