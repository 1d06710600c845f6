/- TopSums answers true. By tSE.py. -/
import Derived.Test.YtfbokllafdnglaaSD
import Derived.Test.YtfbokllafdnglaaPG
import Derived.Test.YtfbokllafdnglaaSM
namespace Go.Proofs.Ytfbokllafdnglaa
open Go Tx Go.RowKit
set_option linter.unusedSimpArgs false
set_option linter.unusedVariables false

set_option maxHeartbeats 16000000 in
set_option maxRecDepth 100000 in
theorem SumsRest (r : Rig) (po bo lo : Option Addr) (pc bc lc : Nat) (f0 f1 f2 : Int) (PP : List Int) (LL : List Ld) (hrd : ⟨po, PP.length, pc, bo, 0, bc, f0, f1, f2, lo, LL.length, lc⟩ = r) (x : Option Addr × Nat) (w : World) (hin : RigIn r PP [] LL w) (hr : rigOk f0 f1 f2 PP [] LL = true) (hG : GrOk r PP LL) :
    VC Try.prog (rest 5 body5) ⟨212, [(1, .ptr 0 0), (3, .ptr 2 0)], [(0, .cells [.v (.slice po PP.length pc), .v (.slice bo 0 bc), .v (iv f0), .v (iv f1), .v (iv f2), .v (.slice lo LL.length lc)] 54), (2, .cells [.v (sV (1 + PP.length + LL.length) x), .v (iv 0)] 92)], 3, fun w2 => Below w.heap.size w w2 ∧ Rd 5 Nd.cs (sV (1 + PP.length + LL.length) x) (gdN r PP LL) w2, z0⟩ (endΦ env Try.f5 fun s σ => (∀ β, s.c β = .bool true) ∧ ∀ w', σ.h w' → Below w.heap.size w w') := by
  have q0 : r.f0 = f0 := by rw [← hrd]
  have q1 : r.f1 = f1 := by rw [← hrd]
  have q2 : r.f2 = f2 := by rw [← hrd]
  have hgl := gdN_len r PP LL
  have hp1 := hG.p
  have hl20 := hG.l
  have hok := gdN_ok hG
  have h21 := fun (w' : World) (h : Rd 5 Nd.cs (sV (gdN r PP LL).length x) (gdN r PP LL) w') => Flows_ok (gdN r PP LL) x.1 x.2 w' h hok
  have h22 := fun (w' : World) (h : Rd 5 Nd.cs (sV (gdN r PP LL).length x) (gdN r PP LL) w') => Blown_ok (gdN r PP LL) x.1 x.2 w' h hok
  have hfp := fun j hj => flow_p hG (j := j) hj
  have hpf := pf_first hG
  have hfl := flow_len (gdN r PP LL) (gdN r PP LL).length
  have h15 := fun (w' : World) (hb : Below w.heap.size w w') => Rig_famN r PP [] LL w' (hin.below hb) (by omega) (by simp) (by omega)
  rw [← hrd] at h15
  have h23 := fun (y : (Option Addr × Nat) × (Option Addr × Nat) × (Option Addr × Nat)) (w' : World) (h : nrH PP [] LL y w') => Ranges_nr PP [] LL f0 f1 f2 r hr ⟨q0, q1, q2⟩ y w' h (by omega) (by simp) (by omega)
  have hov := ovO_at (r := r) (PP := PP) hG.a hl20
  have h11 := fun (y : (Option Addr × Nat) × (Option Addr × Nat) × (Option Addr × Nat)) (w' : World) (h : nrH PP [] LL y w') => Over_nr PP [] LL f0 f1 f2 r (if ovP r PP LL < PP.length then some (-1, (ovP r PP LL : Int), (frF [] LL).p (ovP r PP LL)) else none) (by rw [hr, if_pos rfl, hov]) ⟨q0, q1, q2⟩ y w' h (by omega) (by simp) (by omega)
  rw [hr] at h11
  have hpt : ∀ k, k < PP.length → (rgPt r LL (frF [] LL) PP.length)[k]? = some (216000 * smP (fun l => l.lo) k LL, 216000 * smP (hiP r) k LL) := fun k hk => by
    unfold rgPt
    rw [rng_at _ hk]
    unfold rgW
    rw [endD_at hG.a hl20, endD_at hG.a hl20, show enF r false = fun l => l.lo from funext fun l => by simp [enF], show enF r true = hiP r from funext fun l => by simp [enF]]
  have hrl : (rgPt r LL (frF [] LL) PP.length).length = PP.length := by simp [rgPt]
  have hbd : ∀ k, (0 ≤ smP (fun l => l.lo) k LL ∧ smP (fun l => l.lo) k LL ≤ 20000000) ∧ (0 ≤ smP (hiP r) k LL ∧ smP (hiP r) k LL ≤ 20000000) := fun k => by
    have a1 := smP_bd (f := fun l => l.lo) (j := k) (L := LL) fun l hl => by have := hG.h l hl; omega
    have a2 := smP_bd (f := hiP r) (j := k) (L := LL) fun l hl => by have := hG.h l hl; omega
    omega
  rw [hgl] at h21 h22 hfl hpf hfp
  generalize flow (gdN r PP LL) (1 + PP.length + LL.length) = FL at *
  generalize abL (pfB (gdN r PP LL) FL) (1 + PP.length + LL.length) = PF at *
  generalize abL (sfB2 (gdN r PP LL) FL) (1 + PP.length + LL.length) = SF at *
  generalize rgPt r LL (frF [] LL) PP.length = PT at *
  have h21 := fun (w' : World) (h : Rd 5 Nd.cs (sV (1 + PP.length + LL.length) x) (gdN r PP LL) w') => (h21 w' h).mono fun e w2 ⟨y, q1, q2, q3⟩ => (⟨⟨y, by have := q3.now; rw [← hfl] at this; exact (rd_ys this).resolve_left (fun hc => by rw [hc] at hfl; simp at hfl; omega)⟩, q1, q2, q3⟩ : ∃ y : { y : (Option Addr × Nat) × (Option Addr × Nat) // ∃ ad, y.1.1 = some ad }, e = Ending.returned (.tuple #[sV (1 + PP.length + LL.length) y.1.1, sV (1 + PP.length + LL.length) y.1.2, iv 0]) ∧ Below w'.heap.size w' w2 ∧ St w'.heap.size (fun w2 => Rd 2 gF (sV (1 + PP.length + LL.length) y.1.1) FL w2) w2)
  have h22 := fun (w' : World) (h : Rd 5 Nd.cs (sV (1 + PP.length + LL.length) x) (gdN r PP LL) w') => (h22 w' h).mono fun e w2 ⟨y, q1, q2, q3⟩ => (⟨⟨y, rd_ys q3.now⟩, q1, q2, q3⟩ : ∃ y : { y : (Option Addr × Nat) × (Option Addr × Nat) // PF = [] ∨ ∃ ad, y.1.1 = some ad }, e = Ending.returned (.tuple #[sV PF.length y.1.1, sV SF.length y.1.2, iv 0]) ∧ Below w'.heap.size w' w2 ∧ St w'.heap.size (fun w2 => Rd 1 iF (sV PF.length y.1.1) PF w2) w2)
  have hpe : PT ≠ [] := fun hc => by rw [hc] at hrl; simp at hrl; omega
  clear hin hG hok hr q0 q1 q2 hov
  obtain ⟨x1, x2⟩ := x
  dsimp only at h21 h22
  refine VC.of env mixed ?_
  rcases hpf with ⟨ho, rfl⟩ | ⟨ho, R, rfl⟩
  · skip
    rw [if_neg (by omega)] at h11
    repeat'
     conv => whnf
     first
      | refine zA ?_ | refine zB ?_ | refine zC ?_ | refine zD ?_ | refine zE ?_ | refine zF ?_ | refine zG ?_ | refine zH ?_ | refine zJ ?_ | refine zI ?_ | refine splT ?_ | refine splF ?_ | refine splNot ?_
      | ((first | refine splIn (fun hc => ?_) (fun hc => ?_) | refine splD (fun hc => ?_) (fun hc => ?_) | refine splE (fun hc => ?_) (fun hc => ?_) | refine splNE (fun hc => ?_) (fun hc => ?_)) <;> first | (exfalso; omega) | (exfalso; dsimp only at hc; omega) | skip)
      | ((with_reducible show CallEv _ _ 21 _ _ _ _ _); refine callF [] (fun y : { y : (Option Addr × Nat) × (Option Addr × Nat) // ∃ ad, y.1.1 = some ad } => .tuple #[sV (1 + PP.length + LL.length) y.1.1, sV (1 + PP.length + LL.length) y.1.2, iv 0]) (fun y => Rd 2 gF (sV (1 + PP.length + LL.length) y.1.1) FL) (fun β w' _ hbw => h21 w' (by first | exact hbw.2 | exact hbw.1.2 | exact hbw.1.1.2 | exact hbw.1.1.1.2 | exact hbw.1.1.1.1.2 | exact hbw.1.1.1.1.1.2 | exact hbw.1.1.1.1.1.1.2 | exact hbw.1.1.1.1.1.1.1.2 | exact hbw.1.1.1.1.1.1.1.1.2 | exact hbw.1.1.1.1.1.1.1.1.1.2 | exact hbw.1.1.1.1.1.1.1.1.1.1.2 | exact hbw.1.1.1.1.1.1.1.1.1.1.1.2 | exact hbw.1.1.1.1.1.1.1.1.1.1.1.1.2 | exact hbw.1.1.1.1.1.1.1.1.1.1.1.1.1.2)) ?_; intro y; obtain ⟨⟨⟨y1, y2⟩, ⟨y3, y4⟩⟩, ⟨ad1, had1⟩⟩ := y; dsimp only at had1; subst had1; dsimp only)
      | ((with_reducible show CallEv _ _ 22 _ _ _ _ _); refine callF [] (fun y : { y : (Option Addr × Nat) × (Option Addr × Nat) // ([] : List Int) = [] ∨ ∃ ad, y.1.1 = some ad } => .tuple #[sV ([] : List Int).length y.1.1, sV SF.length y.1.2, iv 0]) (fun y => Rd 1 iF (sV ([] : List Int).length y.1.1) ([] : List Int)) (fun β w' _ hbw => h22 w' (by first | exact hbw.2 | exact hbw.1.2 | exact hbw.1.1.2 | exact hbw.1.1.1.2 | exact hbw.1.1.1.1.2 | exact hbw.1.1.1.1.1.2 | exact hbw.1.1.1.1.1.1.2 | exact hbw.1.1.1.1.1.1.1.2 | exact hbw.1.1.1.1.1.1.1.1.2 | exact hbw.1.1.1.1.1.1.1.1.1.2 | exact hbw.1.1.1.1.1.1.1.1.1.1.2 | exact hbw.1.1.1.1.1.1.1.1.1.1.1.2 | exact hbw.1.1.1.1.1.1.1.1.1.1.1.1.2 | exact hbw.1.1.1.1.1.1.1.1.1.1.1.1.1.2)) ?_; intro z; obtain ⟨⟨⟨z1, z2⟩, ⟨z3, z4⟩⟩, hz⟩ := z; dsimp only at hz ⊢)
      | ((with_reducible show CallEv _ _ 15 _ _ _ _ _); refine callF [] (fun y : { y : (Option Addr × Nat) × (Option Addr × Nat) × (Option Addr × Nat) // LL = [] → y.2.2 = (none, 0) } => nrV PP [] LL f0 f1 f2 y.1) (fun y => nrH PP [] LL y.1) (fun β w' _ hbw => h15 w' (by repeat (first | exact hbw | replace hbw := hbw.1))) ?_; intro y; obtain ⟨⟨⟨v1, v2⟩, ⟨v3, v4⟩, v5, v6⟩, hyn⟩ := y; dsimp only at hyn ⊢)
      | ((with_reducible show CallEv _ _ 23 _ _ _ _ _); refine callF [] (fun z : YS PT × YS (rgHg r LL (frF [] LL) 0) => .tuple #[sV PP.length z.1.1, sV 0 z.2.1, iv 0]) (fun z => Rd 2 gF (sV PP.length z.1.1) PT) (fun β w' _ hbw => (h23 ((_, _), (_, _), (_, _)) w' hbw.2).mono fun e w2 ⟨z, q1, q2, q3⟩ => ⟨z, q1, q2, q3.imp fun w3 q => q.1⟩) ?_; intro z; obtain ⟨⟨⟨u1, u2⟩, hu⟩, ⟨⟨u3, u4⟩, hu2⟩⟩ := z; obtain ⟨ad2, had2⟩ := hu.resolve_left hpe; dsimp only at had2; subst had2; dsimp only)
      | ((with_reducible show CallEv _ _ 11 _ _ _ _ _); refine callF [] (fun z : Option Addr × Nat => .tuple #[.agg #[iv 0, iv 0], sV 0 z, iv 7]) (fun _ => fun _ => True) (fun β w' _ hbw => (h11 ((_, _), (_, _), (_, _)) w' hbw.2).mono fun e w2 ⟨z, q1, q2, q3⟩ => ⟨z, q1, q2, fun _ _ => trivial⟩) ?_; intro z; obtain ⟨t1, t2⟩ := z; dsimp only)
    all_goals first | (exfalso; omega) | skip
    refine loopN 4 (fun k : Nat => [(1, .ptr 0 0), (3, .ptr 2 0), (7, .v (sV (1 + PP.length + LL.length) (some ad1, y2))), (10, .v (sV ([] : List Int).length (z1, z2))), (13, .v (sV PP.length (some ad2, u2))), (16, .ptr 3 0), (18, .v (iv 7)), (19, .v (iv k))]) (fun _ => [(0, .cells [.v (.slice po PP.length pc), .v (.slice bo 0 bc), .v (iv f0), .v (iv f1), .v (iv f2), .v (.slice lo LL.length lc)] 54), (2, .cells [.v (sV (1 + PP.length + LL.length) (x1, x2)), .v (iv 0)] 92), (3, .cells [.v (iv 0), .v (iv 0)] 48)]) (fun k => k ≤ PP.length) (fun k => PP.length - k) 0 (Nat.zero_le _) ⟨rfl, rfl, rfl, rfl, rfl, rfl, rfl, rfl, trivial⟩ ⟨rfl, rfl, rfl, trivial⟩ (fun _ _ => ⟨rfl, rfl⟩) ?_
    intro k hk
    rcases Nat.lt_or_ge k PP.length with hkl | hkl
    · have e1 := hpt k hkl
      have e2 := hfp k hkl
      have hb := hbd k
      generalize smP (fun l => l.lo) k LL = A at *
      generalize smP (hiP r) k LL = B at *
      have g1 := fun (w' : World) (hw' : Rd 2 gF (sV PP.length (some ad2, u2)) PT w') => rd_fldz hw' e1 _ rfl 0 (iv (216000 * A)) rfl
      have g2 := fun (w' : World) (hw' : Rd 2 gF (sV PP.length (some ad2, u2)) PT w') => rd_fldz hw' e1 _ rfl 1 (iv (216000 * B)) rfl
      have g3 := fun (w' : World) (hw' : Rd 2 gF (sV (1 + PP.length + LL.length) (some ad1, y2)) FL w') => rd_fldz hw' e2 (1 + (k : Int)) (by omega) 0 (iv A) rfl
      have g4 := fun (w' : World) (hw' : Rd 2 gF (sV (1 + PP.length + LL.length) (some ad1, y2)) FL w') => rd_fldz hw' e2 (1 + (k : Int)) (by omega) 1 (iv B) rfl
      repeat'
       conv => whnf
       first
        | refine zA ?_ | refine zB ?_ | refine zC ?_ | refine zD ?_ | refine zE ?_ | refine zF ?_ | refine zG ?_ | refine zH ?_ | refine zJ ?_ | refine zI ?_ | refine splT ?_ | refine splF ?_ | refine splNot ?_
        | ((first | refine splIn (fun hc => ?_) (fun hc => ?_) | refine splD (fun hc => ?_) (fun hc => ?_) | refine splE (fun hc => ?_) (fun hc => ?_) | refine splNE (fun hc => ?_) (fun hc => ?_)) <;> first | (exfalso; omega) | (exfalso; dsimp only at hc; omega) | skip)
        | refine Exists.intro (α := List Value) [iv (216000 * A)] ⟨⟨rfl, fun w' hw' => g1 w' (by first | exact hw'.2 | exact hw'.1.2 | exact hw'.1.1.2 | exact hw'.1.1.1.2 | exact hw'.1.1.1.1.2 | exact hw'.1.1.1.1.1.2 | exact hw'.1.1.1.1.1.1.2 | exact hw'.1.1.1.1.1.1.1.2 | exact hw'.1.1.1.1.1.1.1.1.2)⟩, ?_⟩
        | refine Exists.intro (α := List Value) [iv A] ⟨⟨rfl, fun w' hw' => g3 w' (by first | exact hw'.2 | exact hw'.1.2 | exact hw'.1.1.2 | exact hw'.1.1.1.2 | exact hw'.1.1.1.1.2 | exact hw'.1.1.1.1.1.2 | exact hw'.1.1.1.1.1.1.2 | exact hw'.1.1.1.1.1.1.1.2 | exact hw'.1.1.1.1.1.1.1.1.2)⟩, ?_⟩
        | refine Exists.intro (α := List Value) [iv (216000 * B)] ⟨⟨rfl, fun w' hw' => g2 w' (by first | exact hw'.2 | exact hw'.1.2 | exact hw'.1.1.2 | exact hw'.1.1.1.2 | exact hw'.1.1.1.1.2 | exact hw'.1.1.1.1.1.2 | exact hw'.1.1.1.1.1.1.2 | exact hw'.1.1.1.1.1.1.1.2 | exact hw'.1.1.1.1.1.1.1.1.2)⟩, ?_⟩
        | refine Exists.intro (α := List Value) [iv B] ⟨⟨rfl, fun w' hw' => g4 w' (by first | exact hw'.2 | exact hw'.1.2 | exact hw'.1.1.2 | exact hw'.1.1.1.2 | exact hw'.1.1.1.1.2 | exact hw'.1.1.1.1.1.2 | exact hw'.1.1.1.1.1.1.2 | exact hw'.1.1.1.1.1.1.1.2 | exact hw'.1.1.1.1.1.1.1.1.2)⟩, ?_⟩
      all_goals first | (exfalso; omega) | exact ⟨k + 1, by omega, by omega, Ent.weak rfl ⟨rfl, rfl, rfl, rfl, rfl, rfl, rfl, rfl, trivial⟩ ⟨rfl, rfl, rfl, trivial⟩ fun _ h => h⟩
    · skip
      repeat'
       conv => whnf
       first
        | refine zA ?_ | refine zB ?_ | refine zC ?_ | refine zD ?_ | refine zE ?_ | refine zF ?_ | refine zG ?_ | refine zH ?_ | refine zJ ?_ | refine zI ?_ | refine splT ?_ | refine splF ?_ | refine splNot ?_
        | ((first | refine splIn (fun hc => ?_) (fun hc => ?_) | refine splD (fun hc => ?_) (fun hc => ?_) | refine splE (fun hc => ?_) (fun hc => ?_) | refine splNE (fun hc => ?_) (fun hc => ?_)) <;> first | (exfalso; omega) | (exfalso; dsimp only at hc; omega) | skip)
        | ((with_reducible show CallEv _ _ 8 _ _ _ _ _); refine callE (k := 8) (fun β w' hbw => hangs_ok _) ?_)
      all_goals first | (exfalso; omega) | exact ⟨fun β => rfl, fun w' h => (by repeat (first | exact h | replace h := h.1))⟩
  · skip
    rw [if_pos ho] at h11
    generalize ovP r PP LL = J at *
    generalize (frF [] LL).p J = X at *
    repeat'
     conv => whnf
     first
      | refine zA ?_ | refine zB ?_ | refine zC ?_ | refine zD ?_ | refine zE ?_ | refine zF ?_ | refine zG ?_ | refine zH ?_ | refine zJ ?_ | refine zI ?_ | refine splT ?_ | refine splF ?_ | refine splNot ?_
      | ((first | refine splIn (fun hc => ?_) (fun hc => ?_) | refine splD (fun hc => ?_) (fun hc => ?_) | refine splE (fun hc => ?_) (fun hc => ?_) | refine splNE (fun hc => ?_) (fun hc => ?_)) <;> first | (exfalso; omega) | (exfalso; dsimp only at hc; omega) | skip)
      | ((with_reducible show CallEv _ _ 21 _ _ _ _ _); refine callF [] (fun y : { y : (Option Addr × Nat) × (Option Addr × Nat) // ∃ ad, y.1.1 = some ad } => .tuple #[sV (1 + PP.length + LL.length) y.1.1, sV (1 + PP.length + LL.length) y.1.2, iv 0]) (fun y => Rd 2 gF (sV (1 + PP.length + LL.length) y.1.1) FL) (fun β w' _ hbw => h21 w' (by first | exact hbw.2 | exact hbw.1.2 | exact hbw.1.1.2 | exact hbw.1.1.1.2 | exact hbw.1.1.1.1.2 | exact hbw.1.1.1.1.1.2 | exact hbw.1.1.1.1.1.1.2 | exact hbw.1.1.1.1.1.1.1.2 | exact hbw.1.1.1.1.1.1.1.1.2 | exact hbw.1.1.1.1.1.1.1.1.1.2 | exact hbw.1.1.1.1.1.1.1.1.1.1.2 | exact hbw.1.1.1.1.1.1.1.1.1.1.1.2 | exact hbw.1.1.1.1.1.1.1.1.1.1.1.1.2 | exact hbw.1.1.1.1.1.1.1.1.1.1.1.1.1.2)) ?_; intro y; obtain ⟨⟨⟨y1, y2⟩, ⟨y3, y4⟩⟩, ⟨ad1, had1⟩⟩ := y; dsimp only at had1; subst had1; dsimp only)
      | ((with_reducible show CallEv _ _ 22 _ _ _ _ _); refine callF [] (fun y : { y : (Option Addr × Nat) × (Option Addr × Nat) // (((1 + J : Nat) : Int) :: R) = [] ∨ ∃ ad, y.1.1 = some ad } => .tuple #[sV (((1 + J : Nat) : Int) :: R).length y.1.1, sV SF.length y.1.2, iv 0]) (fun y => Rd 1 iF (sV (((1 + J : Nat) : Int) :: R).length y.1.1) (((1 + J : Nat) : Int) :: R)) (fun β w' _ hbw => h22 w' (by first | exact hbw.2 | exact hbw.1.2 | exact hbw.1.1.2 | exact hbw.1.1.1.2 | exact hbw.1.1.1.1.2 | exact hbw.1.1.1.1.1.2 | exact hbw.1.1.1.1.1.1.2 | exact hbw.1.1.1.1.1.1.1.2 | exact hbw.1.1.1.1.1.1.1.1.2 | exact hbw.1.1.1.1.1.1.1.1.1.2 | exact hbw.1.1.1.1.1.1.1.1.1.1.2 | exact hbw.1.1.1.1.1.1.1.1.1.1.1.2 | exact hbw.1.1.1.1.1.1.1.1.1.1.1.1.2 | exact hbw.1.1.1.1.1.1.1.1.1.1.1.1.1.2)) ?_; intro z; obtain ⟨⟨⟨z1, z2⟩, ⟨z3, z4⟩⟩, hz⟩ := z; dsimp only at hz ⊢)
      | ((with_reducible show CallEv _ _ 15 _ _ _ _ _); refine callF [] (fun y : { y : (Option Addr × Nat) × (Option Addr × Nat) × (Option Addr × Nat) // LL = [] → y.2.2 = (none, 0) } => nrV PP [] LL f0 f1 f2 y.1) (fun y => nrH PP [] LL y.1) (fun β w' _ hbw => h15 w' (by repeat (first | exact hbw | replace hbw := hbw.1))) ?_; intro y; obtain ⟨⟨⟨v1, v2⟩, ⟨v3, v4⟩, v5, v6⟩, hyn⟩ := y; dsimp only at hyn ⊢)
      | ((with_reducible show CallEv _ _ 23 _ _ _ _ _); refine callF [] (fun z : YS PT × YS (rgHg r LL (frF [] LL) 0) => .tuple #[sV PP.length z.1.1, sV 0 z.2.1, iv 0]) (fun z => Rd 2 gF (sV PP.length z.1.1) PT) (fun β w' _ hbw => (h23 ((_, _), (_, _), (_, _)) w' hbw.2).mono fun e w2 ⟨z, q1, q2, q3⟩ => ⟨z, q1, q2, q3.imp fun w3 q => q.1⟩) ?_; intro z; obtain ⟨⟨⟨u1, u2⟩, hu⟩, ⟨⟨u3, u4⟩, hu2⟩⟩ := z; obtain ⟨ad2, had2⟩ := hu.resolve_left hpe; dsimp only at had2; subst had2; dsimp only)
      | ((with_reducible show CallEv _ _ 11 _ _ _ _ _); refine callF [] (fun z : Option Addr × Nat => .tuple #[.agg #[iv (-1), iv (J)], sV (endL r X true LL).length z, iv 0]) (fun _ => fun _ => True) (fun β w' _ hbw => (h11 ((_, _), (_, _), (_, _)) w' hbw.2).mono fun e w2 ⟨z, q1, q2, q3⟩ => ⟨z, q1, q2, fun _ _ => trivial⟩) ?_; intro z; obtain ⟨t1, t2⟩ := z; dsimp only)
    all_goals first | (exfalso; omega) | skip
    refine loopN 4 (fun k : Nat => [(1, .ptr 0 0), (3, .ptr 2 0), (7, .v (sV (1 + PP.length + LL.length) (some ad1, y2))), (10, .v (sV (((1 + J : Nat) : Int) :: R).length (z1, z2))), (13, .v (sV PP.length (some ad2, u2))), (16, .ptr 3 0), (18, .v (iv 0)), (19, .v (iv k))]) (fun _ => [(0, .cells [.v (.slice po PP.length pc), .v (.slice bo 0 bc), .v (iv f0), .v (iv f1), .v (iv f2), .v (.slice lo LL.length lc)] 54), (2, .cells [.v (sV (1 + PP.length + LL.length) (x1, x2)), .v (iv 0)] 92), (3, .cells [.v (iv (-1)), .v (iv J)] 48)]) (fun k => k ≤ PP.length) (fun k => PP.length - k) 0 (Nat.zero_le _) ⟨rfl, rfl, rfl, rfl, rfl, rfl, rfl, rfl, trivial⟩ ⟨rfl, rfl, rfl, trivial⟩ (fun _ _ => ⟨rfl, rfl⟩) ?_
    intro k hk
    rcases Nat.lt_or_ge k PP.length with hkl | hkl
    · have e1 := hpt k hkl
      have e2 := hfp k hkl
      have hb := hbd k
      generalize smP (fun l => l.lo) k LL = A at *
      generalize smP (hiP r) k LL = B at *
      have g1 := fun (w' : World) (hw' : Rd 2 gF (sV PP.length (some ad2, u2)) PT w') => rd_fldz hw' e1 _ rfl 0 (iv (216000 * A)) rfl
      have g2 := fun (w' : World) (hw' : Rd 2 gF (sV PP.length (some ad2, u2)) PT w') => rd_fldz hw' e1 _ rfl 1 (iv (216000 * B)) rfl
      have g3 := fun (w' : World) (hw' : Rd 2 gF (sV (1 + PP.length + LL.length) (some ad1, y2)) FL w') => rd_fldz hw' e2 (1 + (k : Int)) (by omega) 0 (iv A) rfl
      have g4 := fun (w' : World) (hw' : Rd 2 gF (sV (1 + PP.length + LL.length) (some ad1, y2)) FL w') => rd_fldz hw' e2 (1 + (k : Int)) (by omega) 1 (iv B) rfl
      repeat'
       conv => whnf
       first
        | refine zA ?_ | refine zB ?_ | refine zC ?_ | refine zD ?_ | refine zE ?_ | refine zF ?_ | refine zG ?_ | refine zH ?_ | refine zJ ?_ | refine zI ?_ | refine splT ?_ | refine splF ?_ | refine splNot ?_
        | ((first | refine splIn (fun hc => ?_) (fun hc => ?_) | refine splD (fun hc => ?_) (fun hc => ?_) | refine splE (fun hc => ?_) (fun hc => ?_) | refine splNE (fun hc => ?_) (fun hc => ?_)) <;> first | (exfalso; omega) | (exfalso; dsimp only at hc; omega) | skip)
        | refine Exists.intro (α := List Value) [iv (216000 * A)] ⟨⟨rfl, fun w' hw' => g1 w' (by first | exact hw'.2 | exact hw'.1.2 | exact hw'.1.1.2 | exact hw'.1.1.1.2 | exact hw'.1.1.1.1.2 | exact hw'.1.1.1.1.1.2 | exact hw'.1.1.1.1.1.1.2 | exact hw'.1.1.1.1.1.1.1.2 | exact hw'.1.1.1.1.1.1.1.1.2)⟩, ?_⟩
        | refine Exists.intro (α := List Value) [iv A] ⟨⟨rfl, fun w' hw' => g3 w' (by first | exact hw'.2 | exact hw'.1.2 | exact hw'.1.1.2 | exact hw'.1.1.1.2 | exact hw'.1.1.1.1.2 | exact hw'.1.1.1.1.1.2 | exact hw'.1.1.1.1.1.1.2 | exact hw'.1.1.1.1.1.1.1.2 | exact hw'.1.1.1.1.1.1.1.1.2)⟩, ?_⟩
        | refine Exists.intro (α := List Value) [iv (216000 * B)] ⟨⟨rfl, fun w' hw' => g2 w' (by first | exact hw'.2 | exact hw'.1.2 | exact hw'.1.1.2 | exact hw'.1.1.1.2 | exact hw'.1.1.1.1.2 | exact hw'.1.1.1.1.1.2 | exact hw'.1.1.1.1.1.1.2 | exact hw'.1.1.1.1.1.1.1.2 | exact hw'.1.1.1.1.1.1.1.1.2)⟩, ?_⟩
        | refine Exists.intro (α := List Value) [iv B] ⟨⟨rfl, fun w' hw' => g4 w' (by first | exact hw'.2 | exact hw'.1.2 | exact hw'.1.1.2 | exact hw'.1.1.1.2 | exact hw'.1.1.1.1.2 | exact hw'.1.1.1.1.1.2 | exact hw'.1.1.1.1.1.1.2 | exact hw'.1.1.1.1.1.1.1.2 | exact hw'.1.1.1.1.1.1.1.1.2)⟩, ?_⟩
      all_goals first | (exfalso; omega) | exact ⟨k + 1, by omega, by omega, Ent.weak rfl ⟨rfl, rfl, rfl, rfl, rfl, rfl, rfl, rfl, trivial⟩ ⟨rfl, rfl, rfl, trivial⟩ fun _ h => h⟩
    · obtain ⟨ad3, had3⟩ := hz.resolve_left (fun hc => by cases hc)
      subst had3
      have g5 := fun (w' : World) (hw' : Rd 1 iF (sV (((1 + J : Nat) : Int) :: R).length (some ad3, z2)) (((1 + J : Nat) : Int) :: R) w') => rd_ati hw' (k := 0) rfl
      have hq : ((-1 : Int) == -1 && ((J : Int) == ((1 + J : Nat) : Int) - 1)) = true := by simp; omega
      repeat'
       conv => whnf
       first
        | refine zA ?_ | refine zB ?_ | refine zC ?_ | refine zD ?_ | refine zE ?_ | refine zF ?_ | refine zG ?_ | refine zH ?_ | refine zJ ?_ | refine zI ?_ | refine splT ?_ | refine splF ?_ | refine splNot ?_
        | ((first | refine splIn (fun hc => ?_) (fun hc => ?_) | refine splD (fun hc => ?_) (fun hc => ?_) | refine splE (fun hc => ?_) (fun hc => ?_) | refine splNE (fun hc => ?_) (fun hc => ?_)) <;> first | (exfalso; omega) | (exfalso; dsimp only at hc; omega) | skip)
        | refine Exists.intro (α := List Value) [iv ((1 + J : Nat) : Int)] ⟨⟨rfl, fun w' hw' => g5 w' (by first | exact hw'.2 | exact hw'.1.2 | exact hw'.1.1.2 | exact hw'.1.1.1.2 | exact hw'.1.1.1.1.2 | exact hw'.1.1.1.1.1.2 | exact hw'.1.1.1.1.1.1.2 | exact hw'.1.1.1.1.1.1.1.2 | exact hw'.1.1.1.1.1.1.1.1.2)⟩, ?_⟩
        | refine eqlE95 hq ?_
        | ((with_reducible show CallEv _ _ 8 _ _ _ _ _); refine callE (k := 8) (fun β w' hbw => hangs_ok _) ?_)
      all_goals first | (exfalso; omega) | (exfalso; simp only [List.length_cons] at *; omega) | exact ⟨fun β => rfl, fun w' h => (by repeat (first | exact h | replace h := h.1))⟩

/-- The nodes so far, as points are taken. -/
def gS : Nat → SV
  | 0 => .sl 1 0 1 1
  | k + 1 => .os 3 4 (1 + (k + 1))
def rtC : List Value := Nd.cs ⟨-1, 0, 0, 0, 0⟩
def gM (PP : List Int) : Nat → List (Nat × Blk)
  | 0 => [(1, .cells [.v (iv (-1)), .v (iv 0), .v (iv 0), .v (iv 0), .v (iv 0)] 89)]
  | k + 1 => [(3, .own 4 (1 + (k + 1)) 5 (rtC ++ ((PP.take (k + 1)).map ndP).flatMap Nd.cs) 89)]
theorem gd_flat (r : Rig) (PP : List Int) (LL : List Ld) : (gdN r PP LL).flatMap Nd.cs = rtC ++ (PP.map ndP).flatMap Nd.cs ++ (LL.map (ndL r)).flatMap Nd.cs := by
  unfold gdN rtC
  rw [List.flatMap_cons, List.flatMap_append, List.append_assoc]
set_option maxHeartbeats 16000000 in
set_option maxRecDepth 100000 in
theorem TopSums_ok (r : Rig) (PP : List Int) (BB : List Bm) (LL : List Ld) (w : World) (hX : RigX r PP BB LL w) :
    Calls Try.prog 5 #[r.v] w fun e w' => e = .returned (.bool true) ∧ Below w.heap.size w w' := by
  have hpn := hX.pn
  have hbn := hX.bn
  have hln := hX.ln
  have pl := hX.pl
  have bl := hX.bl
  have ll := hX.ll
  have h19 := fun (w' : World) => Thin_ok r w' (by omega) (by omega) (by omega)
  have h12 := fun (w' : World) (hb : Below w.heap.size w w') => Right_ok r PP BB LL w' (hX.below hb)
  rw [hpn, hbn, hln] at h19
  by_cases hgo : (thB PP.length BB.length LL.length = true ∧ rigOk r.f0 r.f1 r.f2 PP BB LL = true) ∧ BB.length = 0 ∧ PP.length + LL.length ≤ 29
  case neg =>
    obtain ⟨po, pn, pc, bo, bn, bc, f0, f1, f2, lo, ln, lc⟩ := r
    dsimp only at hln hpn hbn h12 h19 hgo
    cases ht : thB PP.length BB.length LL.length with
    | false =>
      rw [ht] at h19
      refine calls_val env mixed Try.func5 has5 Try.ntmps5 [.agg #[.slice po pn pc, .slice bo bn bc, iv f0, iv f1, iv f2, .slice lo ln lc]] (by simp) ?_
      repeat'
       conv => whnf
       first
        | refine zA ?_ | refine zB ?_ | refine zC ?_ | refine zD ?_ | refine zE ?_ | refine zF ?_ | refine zG ?_ | refine zH ?_ | refine zJ ?_ | refine zI ?_ | refine splT ?_ | refine splF ?_ | refine splNot ?_
        | ((first | refine splIn (fun hc => ?_) (fun hc => ?_) | refine splD (fun hc => ?_) (fun hc => ?_) | refine splE (fun hc => ?_) (fun hc => ?_) | refine splNE (fun hc => ?_) (fun hc => ?_)) <;> first | (exfalso; omega) | (exfalso; dsimp only at hc; omega) | skip)
        | ((with_reducible show CallEv _ _ 19 _ _ _ _ _); refine callE (k := 19) (fun β w' hbw => h19 _) ?_)
        | ((with_reducible show CallEv _ _ 8 _ _ _ _ _); refine callE (k := 8) (fun β w' hbw => hangs_ok _) ?_)
      all_goals first | (exfalso; omega) | exact ⟨fun β => rfl, fun w' h => h⟩
    | true =>
      rw [ht] at h19
      cases hr : rigOk f0 f1 f2 PP BB LL with
      | false =>
        rw [hr] at h12
        refine calls_val env mixed Try.func5 has5 Try.ntmps5 [.agg #[.slice po pn pc, .slice bo bn bc, iv f0, iv f1, iv f2, .slice lo ln lc]] (by simp) ?_
        repeat'
         conv => whnf
         first
          | refine zA ?_ | refine zB ?_ | refine zC ?_ | refine zD ?_ | refine zE ?_ | refine zF ?_ | refine zG ?_ | refine zH ?_ | refine zJ ?_ | refine zI ?_ | refine splT ?_ | refine splF ?_ | refine splNot ?_
          | ((first | refine splIn (fun hc => ?_) (fun hc => ?_) | refine splD (fun hc => ?_) (fun hc => ?_) | refine splE (fun hc => ?_) (fun hc => ?_) | refine splNE (fun hc => ?_) (fun hc => ?_)) <;> first | (exfalso; omega) | (exfalso; dsimp only at hc; omega) | skip)
          | ((with_reducible show CallEv _ _ 19 _ _ _ _ _); refine callE (k := 19) (fun β w' hbw => h19 _) ?_)
          | ((with_reducible show CallEv _ _ 12 _ _ _ _ _); refine callE (k := 12) (fun β w' hbw => h12 _ hbw) ?_)
          | ((with_reducible show CallEv _ _ 8 _ _ _ _ _); refine callE (k := 8) (fun β w' hbw => hangs_ok _) ?_)
        all_goals first | (exfalso; omega) | exact ⟨fun β => rfl, fun w' h => h⟩
      | true =>
        rw [hr] at h12
        have hgo2 : ¬ (BB.length = 0 ∧ PP.length + LL.length ≤ 29) := fun hc => hgo ⟨⟨ht, hr⟩, hc⟩
        have hrl := rigOk_iff.1 hr
        have hrl2 := hrl.2.2.2.2.1
        have hrl3 := hrl.2.2.1
        have hrl4 := hrl.1
        clear hrl hgo
        refine calls_val env mixed Try.func5 has5 Try.ntmps5 [.agg #[.slice po pn pc, .slice bo bn bc, iv f0, iv f1, iv f2, .slice lo ln lc]] (by simp) ?_
        repeat'
         conv => whnf
         first
          | refine zA ?_ | refine zB ?_ | refine zC ?_ | refine zD ?_ | refine zE ?_ | refine zF ?_ | refine zG ?_ | refine zH ?_ | refine zJ ?_ | refine zI ?_ | refine splT ?_ | refine splF ?_ | refine splNot ?_
          | ((first | refine splIn (fun hc => ?_) (fun hc => ?_) | refine splD (fun hc => ?_) (fun hc => ?_) | refine splE (fun hc => ?_) (fun hc => ?_) | refine splNE (fun hc => ?_) (fun hc => ?_)) <;> first | (exfalso; omega) | (exfalso; dsimp only at hc; omega) | skip)
          | ((with_reducible show CallEv _ _ 19 _ _ _ _ _); refine callE (k := 19) (fun β w' hbw => h19 _) ?_)
          | ((with_reducible show CallEv _ _ 12 _ _ _ _ _); refine callE (k := 12) (fun β w' hbw => h12 _ hbw) ?_)
          | ((with_reducible show CallEv _ _ 8 _ _ _ _ _); refine callE (k := 8) (fun β w' hbw => hangs_ok _) ?_)
        all_goals first | (exfalso; omega) | exact ⟨fun β => rfl, fun w' h => h⟩
  obtain ⟨⟨ht, hr⟩, hb0, hs29⟩ := hgo
  obtain rfl : BB = [] := List.eq_nil_of_length_eq_zero hb0
  rw [ht] at h19
  rw [hr] at h12
  have hri := rigOk_iff.1 hr
  have hP1 : 1 ≤ PP.length ∧ PP.length ≤ 12 := by have := hri.1; omega
  have hL20 := hri.2.2.2.2.1
  have hin := hX.rin (by omega) (by simp) (by omega)
  have hat : atP PP.length LL := fun l hl => by
    have h1 := ldOk_iff.1 (List.all_eq_true.1 hri.2.2.2.2.2.2 l hl)
    rcases hasB_cases h1.1 with q | q
    · omega
    · simp at q; omega
  have hld : ∀ (k : Nat) l, LL[k]? = some l → (0 ≤ l.lo ∧ l.lo ≤ hiP r l) ∧ (l.kind ≤ 2 ∧ (0 ≤ l.hi ∧ l.hi ≤ 1000000000)) := fun k l hl => by
    have h1 := ldOk_iff.1 (List.all_eq_true.1 hri.2.2.2.2.2.2 l (List.mem_of_getElem? hl))
    have h2 := hiP_bd (fac_bd (r := r) hri.2.2.2.2.2.1 l.kind) h1.2.2.2.1
    omega
  have h20 := fun (k : Nat) (l : Ld) (hl : LL[k]? = some l) (w' : World) (hb : Below w.heap.size w w') => PullR_ok r LL k l w' (hin.l.below hb) hln hl (by omega) (hld k l hl).2.1 (hld k l hl).2.2 (by have := fac_bd (r := r) hri.2.2.2.2.2.1 l.kind; omega)
  have hpp : ∀ p ∈ PP, 0 ≤ p ∧ p ≤ 1000000 := fun p hp => inB_iff.1 (List.all_eq_true.1 hri.2.1 p hp)
  have hGr : (∀ (k : Nat) l, LL[k]? = some l → hiP r l ≤ 1000000) → GrOk r PP LL := fun h => ⟨hP1, hL20, hs29, hpp, hat, fun l hl => by
    obtain ⟨k, hk⟩ := List.getElem?_of_mem hl
    have := h k l hk
    have := hld k l hk
    omega⟩
  have hPd := hin.p
  have hLd := hin.l
  obtain ⟨po, pn, pc, bo, bn, bc, f0, f1, f2, lo, ln, lc⟩ := r
  dsimp only at hln hpn hbn h12 h19 hr hPd hLd
  obtain ⟨r, hrd⟩ : ∃ r : Rig, (⟨po, PP.length, pc, bo, 0, bc, f0, f1, f2, lo, LL.length, lc⟩ : Rig) = r := ⟨_, rfl⟩
  subst hpn
  subst hbn
  subst hln
  have hrest := fun (x : Option Addr × Nat) (hG : GrOk r PP LL) => SumsRest r po bo lo pc bc lc f0 f1 f2 PP LL hrd x w (by rw [← hrd]; exact hin) hr hG
  simp only [List.length_nil] at h20 hGr hld h12
  have h20 : ∀ (k : Nat) (l : Ld), LL[k]? = some l → ∀ w' : World, Below w.heap.size w w' → Calls Try.prog 20 #[.agg #[.slice po PP.length pc, .slice bo 0 bc, iv f0, iv f1, iv f2, .slice lo LL.length lc], iv k] w' fun e w2 => e = .returned (.agg #[iv l.lo, iv (hiP r l)]) ∧ Below w'.heap.size w' w2 := by rw [← hrd]; exact h20
  rw [hrd] at hGr hld
  clear hX hin hri
  refine calls_valV env mixed Try.func5 has5 Try.ntmps5 [.agg #[.slice po PP.length pc, .slice bo 0 bc, iv f0, iv f1, iv f2, .slice lo LL.length lc]] (by simp) ?_
  refine VC.cutD env mixed 5 3 (fun x : Option Addr × Nat => [(1, .ptr 0 0), (3, .ptr 2 0)]) (fun x => [(0, .cells [.v (.slice po PP.length pc), .v (.slice bo 0 bc), .v (iv f0), .v (iv f1), .v (iv f2), .v (.slice lo LL.length lc)] 54), (2, .cells [.v (sV (1 + PP.length + LL.length) x), .v (iv 0)] 92)]) (fun x w2 => Below w.heap.size w w2 ∧ Rd 5 Nd.cs (sV (1 + PP.length + LL.length) x) (gdN r PP LL) w2) (fun x => GrOk r PP LL) (fun _ _ => ⟨rfl, rfl⟩) ?_ (fun x hx => hrest x hx)
  clear hrest
  repeat'
   conv => whnf
   first
    | refine zA ?_ | refine zB ?_ | refine zC ?_ | refine zD ?_ | refine zE ?_ | refine zF ?_ | refine zG ?_ | refine zH ?_ | refine zJ ?_ | refine zI ?_ | refine splT ?_ | refine splF ?_ | refine splNot ?_
    | ((first | refine splIn (fun hc => ?_) (fun hc => ?_) | refine splD (fun hc => ?_) (fun hc => ?_) | refine splE (fun hc => ?_) (fun hc => ?_) | refine splNE (fun hc => ?_) (fun hc => ?_)) <;> first | (exfalso; omega) | (exfalso; dsimp only at hc; omega) | skip)
    | ((with_reducible show CallEv _ _ 19 _ _ _ _ _); refine callE (k := 19) (fun β w' hbw => h19 _) ?_)
    | ((with_reducible show CallEv _ _ 12 _ _ _ _ _); refine callE (k := 12) (fun β w' hbw => h12 _ hbw) ?_)
  all_goals first | (exfalso; omega) | skip
  refine loopN 5 (fun k : Nat => [(1, .ptr 0 0), (3, .ptr 2 0), (4, .v (iv k))]) (fun k => (0, .cells [.v (.slice po PP.length pc), .v (.slice bo 0 bc), .v (iv f0), .v (iv f1), .v (iv f2), .v (.slice lo LL.length lc)] 54) :: (2, .cells [gS k, .v (iv 0)] 92) :: gM PP k) (fun k => k ≤ PP.length) (fun k => PP.length - k) 0 (Nat.zero_le _) ⟨rfl, rfl, rfl, trivial⟩ ⟨rfl, rfl, rfl, trivial⟩ (fun k _ => by cases k <;> exact ⟨rfl, rfl⟩) ?_
  intro k hk
  rcases Nat.lt_or_ge k PP.length with hkl | hkl
  · obtain ⟨p, hp⟩ : ∃ p, PP[k]? = some p := ⟨_, List.getElem?_eq_getElem hkl⟩
    obtain ⟨_, ad, rfl, _⟩ := hPd.ptr (by omega)
    have e0 := fun (w' : World) hw' => rd_ati (hPd.below (w' := w') hw') hp
    have ht1 : PP.take (k + 1) = PP.take k ++ [p] := by rw [List.take_add_one, hp]; rfl
    have hfl : rtC ++ ((PP.take (k + 1)).map ndP).flatMap Nd.cs = (rtC ++ ((PP.take k).map ndP).flatMap Nd.cs) ++ [iv 0, iv 0, iv 0, iv p, iv 0] := by
      rw [ht1, List.map_append, List.flatMap_append, List.append_assoc]; rfl
    have hgM : gM PP (k + 1) = [(3, .own 4 (1 + (k + 1)) 5 ((rtC ++ ((PP.take k).map ndP).flatMap Nd.cs) ++ [iv 0, iv 0, iv 0, iv p, iv 0]) 89)] := by rw [gM, hfl]
    cases k with
    | zero =>
      repeat'
       conv => whnf
       first
        | refine zA ?_ | refine zB ?_ | refine zC ?_ | refine zD ?_ | refine zE ?_ | refine zF ?_ | refine zG ?_ | refine zH ?_ | refine zJ ?_ | refine zI ?_ | refine splT ?_ | refine splF ?_ | refine splNot ?_
        | ((first | refine splIn (fun hc => ?_) (fun hc => ?_) | refine splD (fun hc => ?_) (fun hc => ?_) | refine splE (fun hc => ?_) (fun hc => ?_) | refine splNE (fun hc => ?_) (fun hc => ?_)) <;> first | (exfalso; omega) | (exfalso; dsimp only at hc; omega) | skip)
        | refine Exists.intro (α := List Value) [iv p] ⟨⟨rfl, fun w' hw' => e0 w' hw'⟩, ?_⟩
      all_goals first | (exfalso; omega) | exact ⟨0 + 1, by omega, by omega, Ent.ren (rho [(3, 6), (4, 7)]) rfl (by rw [hgM]; rfl) ⟨rfl, rfl, rfl, trivial⟩ (by rw [hgM]; exact ⟨rfl, rfl, rfl, trivial⟩) fun _ h => h⟩
    | succ k =>
      repeat'
       conv => whnf
       first
        | refine zA ?_ | refine zB ?_ | refine zC ?_ | refine zD ?_ | refine zE ?_ | refine zF ?_ | refine zG ?_ | refine zH ?_ | refine zJ ?_ | refine zI ?_ | refine splT ?_ | refine splF ?_ | refine splNot ?_
        | ((first | refine splIn (fun hc => ?_) (fun hc => ?_) | refine splD (fun hc => ?_) (fun hc => ?_) | refine splE (fun hc => ?_) (fun hc => ?_) | refine splNE (fun hc => ?_) (fun hc => ?_)) <;> first | (exfalso; omega) | (exfalso; dsimp only at hc; omega) | skip)
        | refine Exists.intro (α := List Value) [iv p] ⟨⟨rfl, fun w' hw' => e0 w' hw'⟩, ?_⟩
      all_goals first | (exfalso; omega) | exact ⟨k + 1 + 1, by omega, by omega, Ent.ren (rho [(3, 6), (4, 7)]) rfl (by rw [hgM]; rfl) ⟨rfl, rfl, rfl, trivial⟩ (by rw [hgM]; exact ⟨rfl, rfl, rfl, trivial⟩) fun _ h => h⟩
  · obtain ⟨n, hn⟩ : ∃ n, PP.length = n + 1 := ⟨PP.length - 1, by omega⟩
    have hgS : gS PP.length = .os 3 4 (1 + PP.length) := by rw [hn]; rfl
    have hgM : gM PP PP.length = [(3, .own 4 (1 + PP.length) 5 ((gdN r PP (LL.take 0)).flatMap Nd.cs) 89)] := by
      have ht : PP.take (n + 1) = PP := List.take_of_length_le (by omega)
      rw [gd_flat, List.take_zero, List.map_nil, List.flatMap_nil, List.append_nil, hn]
      show [(3, Blk.own 4 (1 + (n + 1)) 5 (rtC ++ ((PP.take (n + 1)).map ndP).flatMap Nd.cs) 89)] = _
      rw [ht]
    obtain rfl : k = PP.length := by omega
    rw [hgS, hgM]
    clear hgS hgM
    repeat'
     conv => whnf
     first
      | refine zA ?_ | refine zB ?_ | refine zC ?_ | refine zD ?_ | refine zE ?_ | refine zF ?_ | refine zG ?_ | refine zH ?_ | refine zJ ?_ | refine zI ?_ | refine splT ?_ | refine splF ?_ | refine splNot ?_
      | ((first | refine splIn (fun hc => ?_) (fun hc => ?_) | refine splD (fun hc => ?_) (fun hc => ?_) | refine splE (fun hc => ?_) (fun hc => ?_) | refine splNE (fun hc => ?_) (fun hc => ?_)) <;> first | (exfalso; omega) | (exfalso; dsimp only at hc; omega) | skip)
    all_goals first | (exfalso; omega) | skip
    refine loopN 5 (fun k : Nat => [(1, .ptr 0 0), (3, .ptr 2 0), (5, .v (iv k))]) (fun k => [(0, .cells [.v (.slice po PP.length pc), .v (.slice bo 0 bc), .v (iv f0), .v (iv f1), .v (iv f2), .v (.slice lo LL.length lc)] 54), (2, .cells [.os 3 4 (1 + PP.length + k), .v (iv 0)] 92), (3, .own 4 (1 + PP.length + k) 5 ((gdN r PP (LL.take k)).flatMap Nd.cs) 89)]) (fun k => k ≤ LL.length ∧ ∀ (j : Nat) l, j < k → LL[j]? = some l → hiP r l ≤ 1000000) (fun k => LL.length - k) 0 ⟨Nat.zero_le _, fun j l h => absurd h (by omega)⟩ ⟨rfl, rfl, rfl, trivial⟩ ⟨rfl, rfl, rfl, trivial⟩ (fun k _ => ⟨rfl, rfl⟩) ?_
    intro k ⟨hk2, hall⟩
    rcases Nat.lt_or_ge k LL.length with hkl2 | hkl2
    · obtain ⟨l, hl⟩ : ∃ p, LL[k]? = some p := ⟨_, List.getElem?_eq_getElem hkl2⟩
      obtain ⟨_, ad, rfl, _⟩ := hLd.ptr (by omega)
      have c20 := h20 k l hl
      have hld2 := hld k l hl
      have e0 := fun (w' : World) hw' => rd_fldz (hLd.below (w' := w') hw') hl _ rfl 1 (iv l.at') rfl
      have ht1 : LL.take (k + 1) = LL.take k ++ [l] := by rw [List.take_add_one, hl]; rfl
      have hfl : (gdN r PP (LL.take (k + 1))).flatMap Nd.cs = (gdN r PP (LL.take k)).flatMap Nd.cs ++ [iv (1 + l.at'), iv l.lo, iv (hiP r l), iv 10000000, iv 0] := by
        rw [gd_flat, gd_flat, ht1, List.map_append, List.flatMap_append, List.append_assoc, List.append_assoc, List.append_assoc]; rfl
      have hall2 : hiP r l ≤ 1000000 → ∀ (j : Nat) m, j < k + 1 → LL[j]? = some m → hiP r m ≤ 1000000 := fun h j m hj hm => by
        by_cases hjk : j = k
        · subst hjk; rw [hl, Option.some.injEq] at hm; subst hm; exact h
        · exact hall j m (by omega) hm
      have ha := hat l (List.mem_of_getElem? hl)
      generalize hiP r l = H at *
      obtain ⟨lb, la, lk', ll, lh⟩ := l
      dsimp only at c20 hld2 e0 hfl ha
      repeat'
       conv => whnf
       first
        | refine zA ?_ | refine zB ?_ | refine zC ?_ | refine zD ?_ | refine zE ?_ | refine zF ?_ | refine zG ?_ | refine zH ?_ | refine zJ ?_ | refine zI ?_ | refine splT ?_ | refine splF ?_ | refine splNot ?_
        | ((first | refine splIn (fun hc => ?_) (fun hc => ?_) | refine splD (fun hc => ?_) (fun hc => ?_) | refine splE (fun hc => ?_) (fun hc => ?_) | refine splNE (fun hc => ?_) (fun hc => ?_)) <;> first | (exfalso; omega) | (exfalso; dsimp only at hc; omega) | skip)
        | ((with_reducible show CallEv _ _ 20 _ _ _ _ _); refine callE (k := 20) (fun β w' hbw => c20 _ hbw) ?_)
        | ((with_reducible show CallEv _ _ 8 _ _ _ _ _); refine callE (k := 8) (fun β w' hbw => hangs_ok _) ?_)
        | refine Exists.intro (α := List Value) [iv la] ⟨⟨rfl, fun w' hw' => e0 w' hw'⟩, ?_⟩
      all_goals first | (exfalso; omega) | exact ⟨fun β => rfl, fun w' h => h⟩ | exact ⟨k + 1, ⟨by omega, hall2 (by omega)⟩, by omega, Ent.ren (rho [(3, 7), (4, 8)]) rfl (by rw [hfl]; rfl) ⟨rfl, rfl, rfl, trivial⟩ (by rw [hfl]; exact ⟨rfl, rfl, rfl, trivial⟩) fun _ h => h⟩
    · have hkn : k = LL.length := by omega
      have hG := hGr fun j l hl => hall j l (by have := (List.getElem?_eq_some_iff.1 hl).1; omega) hl
      have hgl := gdN_len r PP LL
      rw [hkn, List.take_of_length_le (Nat.le_refl _)]
      repeat'
       conv => whnf
       first
        | refine zA ?_ | refine zB ?_ | refine zC ?_ | refine zD ?_ | refine zE ?_ | refine zF ?_ | refine zG ?_ | refine zH ?_ | refine zJ ?_ | refine zI ?_ | refine splT ?_ | refine splF ?_ | refine splNot ?_
        | ((first | refine splIn (fun hc => ?_) (fun hc => ?_) | refine splD (fun hc => ?_) (fun hc => ?_) | refine splE (fun hc => ?_) (fun hc => ?_) | refine splNE (fun hc => ?_) (fun hc => ?_)) <;> first | (exfalso; omega) | (exfalso; dsimp only at hc; omega) | skip)
      all_goals first | (exfalso; omega) | skip
      exact ⟨rfl, Dis.mk [3] (fun i hi => by simp at hi; subst hi; exact ⟨_, rfl, rfl⟩) fun β w1 hb hw => ⟨(some ⟨β 3, 0, none⟩, β 4), hG, ⟨⟨_, rfl, rfl⟩, ⟨_, rfl, rfl⟩, trivial⟩, ⟨⟨rfl, _, _, _, rfl, rfl, rfl⟩, ⟨rfl, _, _, _, rfl, rfl, rfl⟩, trivial⟩, fun w2 h2 hb2 => ⟨h2, Rd.of_owns (sz := 5) (f := Nd.cs) (fun _ => rfl) rfl hgl.symm (hb2 3 (by simp) _ rfl)⟩⟩⟩
end Go.Proofs.Ytfbokllafdnglaa
