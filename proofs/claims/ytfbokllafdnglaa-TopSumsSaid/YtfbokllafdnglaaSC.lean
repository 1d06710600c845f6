/- Fuses of a grid: what fuse, above, Flows and Blown return. By tSC.py. -/
import Derived.Test.YtfbokllafdnglaaSB
import Derived.Test.YtfbokllafdnglaaPE
namespace Go.Proofs.Ytfbokllafdnglaa.Tx
open Go Go.RowKit
set_option linter.unusedSimpArgs false
set_option linter.unusedVariables false
/-- A method's value: the function with its receiver. -/
theorem mkMv {P : Program} {dst : Option Tmp} {ty : TypeId} {pos : String} {after : Array Edge} {gd : Option (Nat × Bool)} {gs : List Nat} {σ : Sg} {K : Ef → Prop} {f : Fn} {x : Operand} {s : SV} (V : Value) (hx : gv σ x = some s) (hV : ∀ β, s.c β = V)
    (hB : efB σ ⟨.v (.func f #[V] #[]), [], [], gs ++ os x, []⟩ = true) (hK : K ⟨.v (.func f #[V] #[]), [], [], gs ++ os x, []⟩) : OpEv P ⟨dst, .makeFunc f #[x] #[], ty, pos, after, gd⟩ gs σ K := by
  refine .mk _ hB (fun k hk => by simp [hk]) rfl (runOK_pure fun β a w hs => ?_) hK
  have e1 := gv_eval hs hx (fun k hk => by simp [hk])
  rw [hV] at e1
  simp only [execOp, Instr.makeFunc, SV.c, Sem.run_bind, Sem.run_pure, Result.andThen_ok, List.map_toArray, List.map_nil, List.map_cons, e1]
end Go.Proofs.Ytfbokllafdnglaa.Tx
namespace Go.Proofs.Ytfbokllafdnglaa
open Go Tx Go.RowKit
set_option linter.unusedSimpArgs false
set_option linter.unusedVariables false

def fz (N : List Nd) (i : Nat) : Int := if i = 0 then 1000000000000 else match N[i]? with | some x => x.fu | none => 0
def abL (f : Nat → Bool) : Nat → List Int
  | 0 => []
  | k + 1 => abL f k ++ (if f k = true then [(k : Int)] else [])
theorem abL_len (f : Nat → Bool) : ∀ k, (abL f k).length ≤ k
  | 0 => Nat.le_refl _
  | k + 1 => by
    have := abL_len f k
    rw [abL, List.length_append]
    split <;> simp <;> omega
def pfB (N : List Nd) (F : List (Int × Int)) (i : Nat) : Bool := decide ((F.getD i (0, 0)).2 > fz N i)
def sfB2 (N : List Nd) (F : List (Int × Int)) (i : Nat) : Bool := decide ((F.getD i (0, 0)).1 > fz N i)
abbrev gdV (o : Option Addr) (n c : Nat) : Value := .agg #[.slice o n c, iv 0]
theorem fuse_ok (N : List Nd) (o : Option Addr) (c : Nat) (i : Nat) (w : World) (hN : Rd 5 Nd.cs (.slice o N.length c) N w) (hi : i < N.length) (hl : N.length ≤ 30) : Calls Try.prog 53 #[gdV o N.length c, iv i] w fun e w' => e = .returned (iv (fz N i)) ∧ Below w.heap.size w w' := by
  obtain ⟨x, hx⟩ : ∃ x, N[i]? = some x := ⟨_, List.getElem?_eq_getElem hi⟩
  obtain ⟨_, ad, rfl, _⟩ := hN.ptr (by omega)
  have e0 := fun (w' : World) hw' => rd_fldz (hN.below (w' := w') hw') hx _ rfl 3 (iv x.fu) rfl
  refine calls_val env mixed Try.func53 has53 Try.ntmps53 [gdV (some ad) N.length c, iv i] (by simp) ?_
  unfold fz
  by_cases h0 : i = 0
  · subst h0
    rw [if_pos rfl]
    repeat'
     conv => whnf
     first
      | refine zA ?_ | refine zB ?_ | refine zC ?_ | refine zD ?_ | refine zE ?_ | refine zF ?_ | refine zG ?_ | refine zH ?_ | refine zJ ?_ | refine zI ?_ | refine splT ?_ | refine splF ?_ | refine splNot ?_
      | ((first | refine splIn (fun hc => ?_) (fun hc => ?_) | refine splD (fun hc => ?_) (fun hc => ?_) | refine splE (fun hc => ?_) (fun hc => ?_) | refine splNE (fun hc => ?_) (fun hc => ?_)) <;> first | (exfalso; omega) | (exfalso; dsimp only at hc; omega) | skip)
    all_goals first | (exfalso; omega) | exact ⟨fun β => rfl, fun w' h => h⟩
  · rw [if_neg h0, hx]
    dsimp only
    repeat'
     conv => whnf
     first
      | refine zA ?_ | refine zB ?_ | refine zC ?_ | refine zD ?_ | refine zE ?_ | refine zF ?_ | refine zG ?_ | refine zH ?_ | refine zJ ?_ | refine zI ?_ | refine splT ?_ | refine splF ?_ | refine splNot ?_
      | ((first | refine splIn (fun hc => ?_) (fun hc => ?_) | refine splD (fun hc => ?_) (fun hc => ?_) | refine splE (fun hc => ?_) (fun hc => ?_) | refine splNE (fun hc => ?_) (fun hc => ?_)) <;> first | (exfalso; omega) | (exfalso; dsimp only at hc; omega) | skip)
      | refine Exists.intro (α := List Value) [iv x.fu] ⟨⟨rfl, fun w' hw' => e0 w' hw'⟩, ?_⟩
    all_goals first | (exfalso; omega) | exact ⟨fun β => rfl, fun w' h => h⟩
set_option maxHeartbeats 4000000 in
set_option maxRecDepth 100000 in
theorem above_ok (N : List Nd) (o : Option Addr) (c : Nat) (F : List (Int × Int)) (p : Option Addr) (d : Nat) (w : World) (hN : Rd 5 Nd.cs (.slice o N.length c) N w) (hF : Rd 2 gF (.slice p F.length d) F w) (hl : N.length ≤ 30) (hFN : F.length = N.length) :
    Calls Try.prog 52 #[.slice p F.length d, .func (.func 53) #[gdV o N.length c] #[]] w fun e w' => ∃ y : (Option Addr × Nat) × (Option Addr × Nat), e = .returned (.tuple #[sV (abL (pfB N F) F.length).length y.1, sV (abL (sfB2 N F) F.length).length y.2]) ∧ Below w.heap.size w w' ∧
      St w.heap.size (fun w2 => Rd 1 iF (sV (abL (pfB N F) F.length).length y.1) (abL (pfB N F) F.length) w2) w' := by
  have hfu := fun (i : Nat) (hi : i < N.length) (w' : World) (hb : Below w.heap.size w w') => fuse_ok N o c i w' (hN.below hb) hi hl
  refine calls_fam env mixed Try.func52 has52 Try.ntmps52 [.slice p F.length d, .func (.func 53) #[gdV o N.length c] #[]] (by simp) ?_
  repeat'
   conv => whnf
   first
    | refine zA ?_ | refine zB ?_ | refine zC ?_ | refine zD ?_ | refine zE ?_ | refine zF ?_ | refine zG ?_ | refine zH ?_ | refine zJ ?_ | refine zI ?_ | refine splT ?_ | refine splF ?_ | refine splNot ?_
    | ((first | refine splIn (fun hc => ?_) (fun hc => ?_) | refine splD (fun hc => ?_) (fun hc => ?_) | refine splE (fun hc => ?_) (fun hc => ?_) | refine splNE (fun hc => ?_) (fun hc => ?_)) <;> first | (exfalso; omega) | (exfalso; dsimp only at hc; omega) | skip)
  refine loopN 4 (fun k : Nat => [(1, .v (.func (.func 53) #[gdV o N.length c] #[])), (4, oSV 0 1 (abL (pfB N F) k)), (5, oSV 2 3 (abL (sfB2 N F) k)), (8, .v (.slice p F.length d)), (9, .v (iv F.length)), (10, .v (iv k))]) (fun k => oM 0 1 1 iF 3 (abL (pfB N F) k) ++ oM 2 3 1 iF 3 (abL (sfB2 N F) k))
    (fun k => k ≤ F.length) (fun k => F.length - k) 0 (Nat.zero_le _) ⟨rfl, rfl, rfl, rfl, rfl, rfl, trivial⟩ trivial (fun k _ => by cases abL (pfB N F) k <;> cases abL (sfB2 N F) k <;> exact ⟨rfl, rfl⟩) ?_
  intro k hk
  rcases Nat.lt_or_ge k F.length with hkl | hkl
  · obtain ⟨⟨g, g'⟩, hg⟩ : ∃ b, F[k]? = some b := ⟨_, List.getElem?_eq_getElem hkl⟩
    obtain ⟨_, ad, rfl, _⟩ := hF.ptr (by omega)
    have e0 := fun (w' : World) hw' => rd_ati (hF.below (w' := w') hw') hg
    have hfk := hfu k (by omega)
    have hp : pfB N F k = decide (g' > fz N k) := by unfold pfB; rw [List.getD_eq_getElem?_getD, hg]; rfl
    have hs : sfB2 N F k = decide (g > fz N k) := by unfold sfB2; rw [List.getD_eq_getElem?_getD, hg]; rfl
    have hP1 : abL (pfB N F) (k + 1) = abL (pfB N F) k ++ (if decide (g' > fz N k) = true then [(k : Int)] else []) := by rw [abL, hp]
    have hS1 : abL (sfB2 N F) (k + 1) = abL (sfB2 N F) k ++ (if decide (g > fz N k) = true then [(k : Int)] else []) := by rw [abL, hs]
    have hPl := abL_len (pfB N F) k
    have hSl := abL_len (sfB2 N F) k
    generalize abL (pfB N F) k = P at *
    generalize abL (sfB2 N F) k = S at *
    generalize fz N k = z at *
    cases P with
    | nil =>
      cases S with
      | nil =>
        by_cases h1 : g' > z <;> by_cases h2 : g > z
        · rw [decide_eq_true h1, if_pos rfl] at hP1
          rw [decide_eq_true h2, if_pos rfl] at hS1
          repeat'
           conv => whnf
           first
            | refine zA ?_ | refine zB ?_ | refine zC ?_ | refine zD ?_ | refine zE ?_ | refine zF ?_ | refine zG ?_ | refine zH ?_ | refine zJ ?_ | refine zI ?_ | refine splT ?_ | refine splF ?_ | refine splNot ?_
            | ((first | refine splIn (fun hc => ?_) (fun hc => ?_) | refine splD (fun hc => ?_) (fun hc => ?_) | refine splE (fun hc => ?_) (fun hc => ?_) | refine splNE (fun hc => ?_) (fun hc => ?_)) <;> first | (exfalso; omega) | (exfalso; dsimp only at hc; omega) | skip)
            | refine Exists.intro (α := List Value) [iv g, iv g'] ⟨⟨rfl, fun w' hw' => e0 w' hw'⟩, ?_⟩
            | ((with_reducible show CallEv _ _ 53 _ _ _ _ _); refine callE (k := 53) (fun β w' hbw => hfk _ hbw) ?_)
          all_goals first | (exfalso; omega) | exact ⟨k + 1, by omega, by omega, Ent.ren (rho [(0, 6), (1, 7), (2, 9), (3, 10)]) rfl (by rw [hP1, hS1]; rfl) ⟨rfl, by rw [hP1]; rfl, by rw [hS1]; rfl, rfl, rfl, rfl, trivial⟩ (by rw [hP1, hS1]; exact ⟨rfl, rfl, trivial⟩) fun _ h => h⟩
        · rw [decide_eq_true h1, if_pos rfl] at hP1
          rw [decide_eq_false h2, if_neg (by simp), List.append_nil] at hS1
          repeat'
           conv => whnf
           first
            | refine zA ?_ | refine zB ?_ | refine zC ?_ | refine zD ?_ | refine zE ?_ | refine zF ?_ | refine zG ?_ | refine zH ?_ | refine zJ ?_ | refine zI ?_ | refine splT ?_ | refine splF ?_ | refine splNot ?_
            | ((first | refine splIn (fun hc => ?_) (fun hc => ?_) | refine splD (fun hc => ?_) (fun hc => ?_) | refine splE (fun hc => ?_) (fun hc => ?_) | refine splNE (fun hc => ?_) (fun hc => ?_)) <;> first | (exfalso; omega) | (exfalso; dsimp only at hc; omega) | skip)
            | refine Exists.intro (α := List Value) [iv g, iv g'] ⟨⟨rfl, fun w' hw' => e0 w' hw'⟩, ?_⟩
            | ((with_reducible show CallEv _ _ 53 _ _ _ _ _); refine callE (k := 53) (fun β w' hbw => hfk _ hbw) ?_)
          all_goals first | (exfalso; omega) | exact ⟨k + 1, by omega, by omega, Ent.ren (rho [(0, 6), (1, 7)]) rfl (by rw [hP1, hS1]; rfl) ⟨rfl, by rw [hP1]; rfl, by rw [hS1]; rfl, rfl, rfl, rfl, trivial⟩ (by rw [hP1, hS1]; exact ⟨rfl, trivial⟩) fun _ h => h⟩
        · rw [decide_eq_false h1, if_neg (by simp), List.append_nil] at hP1
          rw [decide_eq_true h2, if_pos rfl] at hS1
          repeat'
           conv => whnf
           first
            | refine zA ?_ | refine zB ?_ | refine zC ?_ | refine zD ?_ | refine zE ?_ | refine zF ?_ | refine zG ?_ | refine zH ?_ | refine zJ ?_ | refine zI ?_ | refine splT ?_ | refine splF ?_ | refine splNot ?_
            | ((first | refine splIn (fun hc => ?_) (fun hc => ?_) | refine splD (fun hc => ?_) (fun hc => ?_) | refine splE (fun hc => ?_) (fun hc => ?_) | refine splNE (fun hc => ?_) (fun hc => ?_)) <;> first | (exfalso; omega) | (exfalso; dsimp only at hc; omega) | skip)
            | refine Exists.intro (α := List Value) [iv g, iv g'] ⟨⟨rfl, fun w' hw' => e0 w' hw'⟩, ?_⟩
            | ((with_reducible show CallEv _ _ 53 _ _ _ _ _); refine callE (k := 53) (fun β w' hbw => hfk _ hbw) ?_)
          all_goals first | (exfalso; omega) | exact ⟨k + 1, by omega, by omega, Ent.ren (rho [(2, 6), (3, 7)]) rfl (by rw [hP1, hS1]; rfl) ⟨rfl, by rw [hP1]; rfl, by rw [hS1]; rfl, rfl, rfl, rfl, trivial⟩ (by rw [hP1, hS1]; exact ⟨rfl, trivial⟩) fun _ h => h⟩
        · rw [decide_eq_false h1, if_neg (by simp), List.append_nil] at hP1
          rw [decide_eq_false h2, if_neg (by simp), List.append_nil] at hS1
          repeat'
           conv => whnf
           first
            | refine zA ?_ | refine zB ?_ | refine zC ?_ | refine zD ?_ | refine zE ?_ | refine zF ?_ | refine zG ?_ | refine zH ?_ | refine zJ ?_ | refine zI ?_ | refine splT ?_ | refine splF ?_ | refine splNot ?_
            | ((first | refine splIn (fun hc => ?_) (fun hc => ?_) | refine splD (fun hc => ?_) (fun hc => ?_) | refine splE (fun hc => ?_) (fun hc => ?_) | refine splNE (fun hc => ?_) (fun hc => ?_)) <;> first | (exfalso; omega) | (exfalso; dsimp only at hc; omega) | skip)
            | refine Exists.intro (α := List Value) [iv g, iv g'] ⟨⟨rfl, fun w' hw' => e0 w' hw'⟩, ?_⟩
            | ((with_reducible show CallEv _ _ 53 _ _ _ _ _); refine callE (k := 53) (fun β w' hbw => hfk _ hbw) ?_)
          all_goals first | (exfalso; omega) | exact ⟨k + 1, by omega, by omega, Ent.weak rfl ⟨rfl, by rw [hP1]; rfl, by rw [hS1]; rfl, rfl, rfl, rfl, trivial⟩ (by rw [hP1, hS1]; exact trivial) fun _ h => h⟩
      | cons s0 S =>
        simp only [List.length_cons] at hPl hSl
        by_cases h1 : g' > z <;> by_cases h2 : g > z
        · rw [decide_eq_true h1, if_pos rfl] at hP1
          rw [decide_eq_true h2, if_pos rfl] at hS1
          repeat'
           conv => whnf
           first
            | refine zA ?_ | refine zB ?_ | refine zC ?_ | refine zD ?_ | refine zE ?_ | refine zF ?_ | refine zG ?_ | refine zH ?_ | refine zJ ?_ | refine zI ?_ | refine splT ?_ | refine splF ?_ | refine splNot ?_
            | ((first | refine splIn (fun hc => ?_) (fun hc => ?_) | refine splD (fun hc => ?_) (fun hc => ?_) | refine splE (fun hc => ?_) (fun hc => ?_) | refine splNE (fun hc => ?_) (fun hc => ?_)) <;> first | (exfalso; omega) | (exfalso; dsimp only at hc; omega) | skip)
            | refine Exists.intro (α := List Value) [iv g, iv g'] ⟨⟨rfl, fun w' hw' => e0 w' hw'⟩, ?_⟩
            | ((with_reducible show CallEv _ _ 53 _ _ _ _ _); refine callE (k := 53) (fun β w' hbw => hfk _ hbw) ?_)
          all_goals first | (exfalso; omega) | exact ⟨k + 1, by omega, by omega, Ent.ren (rho [(0, 6), (1, 7), (2, 9), (3, 10)]) rfl (by rw [hP1, hS1]; rfl) ⟨rfl, by rw [hP1]; rfl, by rw [hS1]; simp [oSV]; rfl, rfl, rfl, rfl, trivial⟩ (by rw [hP1, hS1]; exact ⟨rfl, by simp [oM]; rfl, trivial⟩) fun _ h => h⟩
        · rw [decide_eq_true h1, if_pos rfl] at hP1
          rw [decide_eq_false h2, if_neg (by simp), List.append_nil] at hS1
          repeat'
           conv => whnf
           first
            | refine zA ?_ | refine zB ?_ | refine zC ?_ | refine zD ?_ | refine zE ?_ | refine zF ?_ | refine zG ?_ | refine zH ?_ | refine zJ ?_ | refine zI ?_ | refine splT ?_ | refine splF ?_ | refine splNot ?_
            | ((first | refine splIn (fun hc => ?_) (fun hc => ?_) | refine splD (fun hc => ?_) (fun hc => ?_) | refine splE (fun hc => ?_) (fun hc => ?_) | refine splNE (fun hc => ?_) (fun hc => ?_)) <;> first | (exfalso; omega) | (exfalso; dsimp only at hc; omega) | skip)
            | refine Exists.intro (α := List Value) [iv g, iv g'] ⟨⟨rfl, fun w' hw' => e0 w' hw'⟩, ?_⟩
            | ((with_reducible show CallEv _ _ 53 _ _ _ _ _); refine callE (k := 53) (fun β w' hbw => hfk _ hbw) ?_)
          all_goals first | (exfalso; omega) | exact ⟨k + 1, by omega, by omega, Ent.ren (rho [(0, 6), (1, 7)]) rfl (by rw [hP1, hS1]; rfl) ⟨rfl, by rw [hP1]; rfl, by rw [hS1]; rfl, rfl, rfl, rfl, trivial⟩ (by rw [hP1, hS1]; exact ⟨rfl, rfl, trivial⟩) fun _ h => h⟩
        · rw [decide_eq_false h1, if_neg (by simp), List.append_nil] at hP1
          rw [decide_eq_true h2, if_pos rfl] at hS1
          repeat'
           conv => whnf
           first
            | refine zA ?_ | refine zB ?_ | refine zC ?_ | refine zD ?_ | refine zE ?_ | refine zF ?_ | refine zG ?_ | refine zH ?_ | refine zJ ?_ | refine zI ?_ | refine splT ?_ | refine splF ?_ | refine splNot ?_
            | ((first | refine splIn (fun hc => ?_) (fun hc => ?_) | refine splD (fun hc => ?_) (fun hc => ?_) | refine splE (fun hc => ?_) (fun hc => ?_) | refine splNE (fun hc => ?_) (fun hc => ?_)) <;> first | (exfalso; omega) | (exfalso; dsimp only at hc; omega) | skip)
            | refine Exists.intro (α := List Value) [iv g, iv g'] ⟨⟨rfl, fun w' hw' => e0 w' hw'⟩, ?_⟩
            | ((with_reducible show CallEv _ _ 53 _ _ _ _ _); refine callE (k := 53) (fun β w' hbw => hfk _ hbw) ?_)
          all_goals first | (exfalso; omega) | exact ⟨k + 1, by omega, by omega, Ent.ren (rho [(2, 6), (3, 7)]) rfl (by rw [hP1, hS1]; rfl) ⟨rfl, by rw [hP1]; rfl, by rw [hS1]; simp [oSV]; rfl, rfl, rfl, rfl, trivial⟩ (by rw [hP1, hS1]; exact ⟨by simp [oM]; rfl, trivial⟩) fun _ h => h⟩
        · rw [decide_eq_false h1, if_neg (by simp), List.append_nil] at hP1
          rw [decide_eq_false h2, if_neg (by simp), List.append_nil] at hS1
          repeat'
           conv => whnf
           first
            | refine zA ?_ | refine zB ?_ | refine zC ?_ | refine zD ?_ | refine zE ?_ | refine zF ?_ | refine zG ?_ | refine zH ?_ | refine zJ ?_ | refine zI ?_ | refine splT ?_ | refine splF ?_ | refine splNot ?_
            | ((first | refine splIn (fun hc => ?_) (fun hc => ?_) | refine splD (fun hc => ?_) (fun hc => ?_) | refine splE (fun hc => ?_) (fun hc => ?_) | refine splNE (fun hc => ?_) (fun hc => ?_)) <;> first | (exfalso; omega) | (exfalso; dsimp only at hc; omega) | skip)
            | refine Exists.intro (α := List Value) [iv g, iv g'] ⟨⟨rfl, fun w' hw' => e0 w' hw'⟩, ?_⟩
            | ((with_reducible show CallEv _ _ 53 _ _ _ _ _); refine callE (k := 53) (fun β w' hbw => hfk _ hbw) ?_)
          all_goals first | (exfalso; omega) | exact ⟨k + 1, by omega, by omega, Ent.weak rfl ⟨rfl, by rw [hP1]; rfl, by rw [hS1]; rfl, rfl, rfl, rfl, trivial⟩ (by rw [hP1, hS1]; exact ⟨rfl, trivial⟩) fun _ h => h⟩
    | cons p0 P =>
      cases S with
      | nil =>
        simp only [List.length_cons] at hPl hSl
        by_cases h1 : g' > z <;> by_cases h2 : g > z
        · rw [decide_eq_true h1, if_pos rfl] at hP1
          rw [decide_eq_true h2, if_pos rfl] at hS1
          repeat'
           conv => whnf
           first
            | refine zA ?_ | refine zB ?_ | refine zC ?_ | refine zD ?_ | refine zE ?_ | refine zF ?_ | refine zG ?_ | refine zH ?_ | refine zJ ?_ | refine zI ?_ | refine splT ?_ | refine splF ?_ | refine splNot ?_
            | ((first | refine splIn (fun hc => ?_) (fun hc => ?_) | refine splD (fun hc => ?_) (fun hc => ?_) | refine splE (fun hc => ?_) (fun hc => ?_) | refine splNE (fun hc => ?_) (fun hc => ?_)) <;> first | (exfalso; omega) | (exfalso; dsimp only at hc; omega) | skip)
            | refine Exists.intro (α := List Value) [iv g, iv g'] ⟨⟨rfl, fun w' hw' => e0 w' hw'⟩, ?_⟩
            | ((with_reducible show CallEv _ _ 53 _ _ _ _ _); refine callE (k := 53) (fun β w' hbw => hfk _ hbw) ?_)
          all_goals first | (exfalso; omega) | exact ⟨k + 1, by omega, by omega, Ent.ren (rho [(0, 6), (1, 7), (2, 9), (3, 10)]) rfl (by rw [hP1, hS1]; rfl) ⟨rfl, by rw [hP1]; simp [oSV]; rfl, by rw [hS1]; rfl, rfl, rfl, rfl, trivial⟩ (by rw [hP1, hS1]; exact ⟨by simp [oM]; rfl, rfl, trivial⟩) fun _ h => h⟩
        · rw [decide_eq_true h1, if_pos rfl] at hP1
          rw [decide_eq_false h2, if_neg (by simp), List.append_nil] at hS1
          repeat'
           conv => whnf
           first
            | refine zA ?_ | refine zB ?_ | refine zC ?_ | refine zD ?_ | refine zE ?_ | refine zF ?_ | refine zG ?_ | refine zH ?_ | refine zJ ?_ | refine zI ?_ | refine splT ?_ | refine splF ?_ | refine splNot ?_
            | ((first | refine splIn (fun hc => ?_) (fun hc => ?_) | refine splD (fun hc => ?_) (fun hc => ?_) | refine splE (fun hc => ?_) (fun hc => ?_) | refine splNE (fun hc => ?_) (fun hc => ?_)) <;> first | (exfalso; omega) | (exfalso; dsimp only at hc; omega) | skip)
            | refine Exists.intro (α := List Value) [iv g, iv g'] ⟨⟨rfl, fun w' hw' => e0 w' hw'⟩, ?_⟩
            | ((with_reducible show CallEv _ _ 53 _ _ _ _ _); refine callE (k := 53) (fun β w' hbw => hfk _ hbw) ?_)
          all_goals first | (exfalso; omega) | exact ⟨k + 1, by omega, by omega, Ent.ren (rho [(0, 6), (1, 7)]) rfl (by rw [hP1, hS1]; rfl) ⟨rfl, by rw [hP1]; simp [oSV]; rfl, by rw [hS1]; rfl, rfl, rfl, rfl, trivial⟩ (by rw [hP1, hS1]; exact ⟨by simp [oM]; rfl, trivial⟩) fun _ h => h⟩
        · rw [decide_eq_false h1, if_neg (by simp), List.append_nil] at hP1
          rw [decide_eq_true h2, if_pos rfl] at hS1
          repeat'
           conv => whnf
           first
            | refine zA ?_ | refine zB ?_ | refine zC ?_ | refine zD ?_ | refine zE ?_ | refine zF ?_ | refine zG ?_ | refine zH ?_ | refine zJ ?_ | refine zI ?_ | refine splT ?_ | refine splF ?_ | refine splNot ?_
            | ((first | refine splIn (fun hc => ?_) (fun hc => ?_) | refine splD (fun hc => ?_) (fun hc => ?_) | refine splE (fun hc => ?_) (fun hc => ?_) | refine splNE (fun hc => ?_) (fun hc => ?_)) <;> first | (exfalso; omega) | (exfalso; dsimp only at hc; omega) | skip)
            | refine Exists.intro (α := List Value) [iv g, iv g'] ⟨⟨rfl, fun w' hw' => e0 w' hw'⟩, ?_⟩
            | ((with_reducible show CallEv _ _ 53 _ _ _ _ _); refine callE (k := 53) (fun β w' hbw => hfk _ hbw) ?_)
          all_goals first | (exfalso; omega) | exact ⟨k + 1, by omega, by omega, Ent.ren (rho [(2, 6), (3, 7)]) rfl (by rw [hP1, hS1]; rfl) ⟨rfl, by rw [hP1]; rfl, by rw [hS1]; rfl, rfl, rfl, rfl, trivial⟩ (by rw [hP1, hS1]; exact ⟨rfl, rfl, trivial⟩) fun _ h => h⟩
        · rw [decide_eq_false h1, if_neg (by simp), List.append_nil] at hP1
          rw [decide_eq_false h2, if_neg (by simp), List.append_nil] at hS1
          repeat'
           conv => whnf
           first
            | refine zA ?_ | refine zB ?_ | refine zC ?_ | refine zD ?_ | refine zE ?_ | refine zF ?_ | refine zG ?_ | refine zH ?_ | refine zJ ?_ | refine zI ?_ | refine splT ?_ | refine splF ?_ | refine splNot ?_
            | ((first | refine splIn (fun hc => ?_) (fun hc => ?_) | refine splD (fun hc => ?_) (fun hc => ?_) | refine splE (fun hc => ?_) (fun hc => ?_) | refine splNE (fun hc => ?_) (fun hc => ?_)) <;> first | (exfalso; omega) | (exfalso; dsimp only at hc; omega) | skip)
            | refine Exists.intro (α := List Value) [iv g, iv g'] ⟨⟨rfl, fun w' hw' => e0 w' hw'⟩, ?_⟩
            | ((with_reducible show CallEv _ _ 53 _ _ _ _ _); refine callE (k := 53) (fun β w' hbw => hfk _ hbw) ?_)
          all_goals first | (exfalso; omega) | exact ⟨k + 1, by omega, by omega, Ent.weak rfl ⟨rfl, by rw [hP1]; rfl, by rw [hS1]; rfl, rfl, rfl, rfl, trivial⟩ (by rw [hP1, hS1]; exact ⟨rfl, trivial⟩) fun _ h => h⟩
      | cons s0 S =>
        simp only [List.length_cons] at hPl hSl
        by_cases h1 : g' > z <;> by_cases h2 : g > z
        · rw [decide_eq_true h1, if_pos rfl] at hP1
          rw [decide_eq_true h2, if_pos rfl] at hS1
          repeat'
           conv => whnf
           first
            | refine zA ?_ | refine zB ?_ | refine zC ?_ | refine zD ?_ | refine zE ?_ | refine zF ?_ | refine zG ?_ | refine zH ?_ | refine zJ ?_ | refine zI ?_ | refine splT ?_ | refine splF ?_ | refine splNot ?_
            | ((first | refine splIn (fun hc => ?_) (fun hc => ?_) | refine splD (fun hc => ?_) (fun hc => ?_) | refine splE (fun hc => ?_) (fun hc => ?_) | refine splNE (fun hc => ?_) (fun hc => ?_)) <;> first | (exfalso; omega) | (exfalso; dsimp only at hc; omega) | skip)
            | refine Exists.intro (α := List Value) [iv g, iv g'] ⟨⟨rfl, fun w' hw' => e0 w' hw'⟩, ?_⟩
            | ((with_reducible show CallEv _ _ 53 _ _ _ _ _); refine callE (k := 53) (fun β w' hbw => hfk _ hbw) ?_)
          all_goals first | (exfalso; omega) | exact ⟨k + 1, by omega, by omega, Ent.ren (rho [(0, 6), (1, 7), (2, 9), (3, 10)]) rfl (by rw [hP1, hS1]; rfl) ⟨rfl, by rw [hP1]; simp [oSV]; rfl, by rw [hS1]; simp [oSV]; rfl, rfl, rfl, rfl, trivial⟩ (by rw [hP1, hS1]; exact ⟨by simp [oM]; rfl, by simp [oM]; rfl, trivial⟩) fun _ h => h⟩
        · rw [decide_eq_true h1, if_pos rfl] at hP1
          rw [decide_eq_false h2, if_neg (by simp), List.append_nil] at hS1
          repeat'
           conv => whnf
           first
            | refine zA ?_ | refine zB ?_ | refine zC ?_ | refine zD ?_ | refine zE ?_ | refine zF ?_ | refine zG ?_ | refine zH ?_ | refine zJ ?_ | refine zI ?_ | refine splT ?_ | refine splF ?_ | refine splNot ?_
            | ((first | refine splIn (fun hc => ?_) (fun hc => ?_) | refine splD (fun hc => ?_) (fun hc => ?_) | refine splE (fun hc => ?_) (fun hc => ?_) | refine splNE (fun hc => ?_) (fun hc => ?_)) <;> first | (exfalso; omega) | (exfalso; dsimp only at hc; omega) | skip)
            | refine Exists.intro (α := List Value) [iv g, iv g'] ⟨⟨rfl, fun w' hw' => e0 w' hw'⟩, ?_⟩
            | ((with_reducible show CallEv _ _ 53 _ _ _ _ _); refine callE (k := 53) (fun β w' hbw => hfk _ hbw) ?_)
          all_goals first | (exfalso; omega) | exact ⟨k + 1, by omega, by omega, Ent.ren (rho [(0, 6), (1, 7)]) rfl (by rw [hP1, hS1]; rfl) ⟨rfl, by rw [hP1]; simp [oSV]; rfl, by rw [hS1]; rfl, rfl, rfl, rfl, trivial⟩ (by rw [hP1, hS1]; exact ⟨by simp [oM]; rfl, rfl, trivial⟩) fun _ h => h⟩
        · rw [decide_eq_false h1, if_neg (by simp), List.append_nil] at hP1
          rw [decide_eq_true h2, if_pos rfl] at hS1
          repeat'
           conv => whnf
           first
            | refine zA ?_ | refine zB ?_ | refine zC ?_ | refine zD ?_ | refine zE ?_ | refine zF ?_ | refine zG ?_ | refine zH ?_ | refine zJ ?_ | refine zI ?_ | refine splT ?_ | refine splF ?_ | refine splNot ?_
            | ((first | refine splIn (fun hc => ?_) (fun hc => ?_) | refine splD (fun hc => ?_) (fun hc => ?_) | refine splE (fun hc => ?_) (fun hc => ?_) | refine splNE (fun hc => ?_) (fun hc => ?_)) <;> first | (exfalso; omega) | (exfalso; dsimp only at hc; omega) | skip)
            | refine Exists.intro (α := List Value) [iv g, iv g'] ⟨⟨rfl, fun w' hw' => e0 w' hw'⟩, ?_⟩
            | ((with_reducible show CallEv _ _ 53 _ _ _ _ _); refine callE (k := 53) (fun β w' hbw => hfk _ hbw) ?_)
          all_goals first | (exfalso; omega) | exact ⟨k + 1, by omega, by omega, Ent.ren (rho [(2, 6), (3, 7)]) rfl (by rw [hP1, hS1]; rfl) ⟨rfl, by rw [hP1]; rfl, by rw [hS1]; simp [oSV]; rfl, rfl, rfl, rfl, trivial⟩ (by rw [hP1, hS1]; exact ⟨rfl, by simp [oM]; rfl, trivial⟩) fun _ h => h⟩
        · rw [decide_eq_false h1, if_neg (by simp), List.append_nil] at hP1
          rw [decide_eq_false h2, if_neg (by simp), List.append_nil] at hS1
          repeat'
           conv => whnf
           first
            | refine zA ?_ | refine zB ?_ | refine zC ?_ | refine zD ?_ | refine zE ?_ | refine zF ?_ | refine zG ?_ | refine zH ?_ | refine zJ ?_ | refine zI ?_ | refine splT ?_ | refine splF ?_ | refine splNot ?_
            | ((first | refine splIn (fun hc => ?_) (fun hc => ?_) | refine splD (fun hc => ?_) (fun hc => ?_) | refine splE (fun hc => ?_) (fun hc => ?_) | refine splNE (fun hc => ?_) (fun hc => ?_)) <;> first | (exfalso; omega) | (exfalso; dsimp only at hc; omega) | skip)
            | refine Exists.intro (α := List Value) [iv g, iv g'] ⟨⟨rfl, fun w' hw' => e0 w' hw'⟩, ?_⟩
            | ((with_reducible show CallEv _ _ 53 _ _ _ _ _); refine callE (k := 53) (fun β w' hbw => hfk _ hbw) ?_)
          all_goals first | (exfalso; omega) | exact ⟨k + 1, by omega, by omega, Ent.weak rfl ⟨rfl, by rw [hP1]; rfl, by rw [hS1]; rfl, rfl, rfl, rfl, trivial⟩ (by rw [hP1, hS1]; exact ⟨rfl, rfl, trivial⟩) fun _ h => h⟩
  · rw [show k = F.length from by omega]
    generalize abL (pfB N F) F.length = P at *
    generalize abL (sfB2 N F) F.length = S at *
    cases P with
    | nil =>
      cases S with
      | nil =>
        repeat'
         conv => whnf
         first
          | refine zA ?_ | refine zB ?_ | refine zC ?_ | refine zD ?_ | refine zE ?_ | refine zF ?_ | refine zG ?_ | refine zH ?_ | refine zJ ?_ | refine zI ?_ | refine splT ?_ | refine splF ?_ | refine splNot ?_
          | ((first | refine splIn (fun hc => ?_) (fun hc => ?_) | refine splD (fun hc => ?_) (fun hc => ?_) | refine splE (fun hc => ?_) (fun hc => ?_) | refine splNE (fun hc => ?_) (fun hc => ?_)) <;> first | (exfalso; omega) | (exfalso; dsimp only at hc; omega) | skip)
        all_goals first | (exfalso; omega) | exact ⟨fun w' h => h, fun β w' hBB hblk => ⟨((none, 0), (none, 0)), rfl, fun _ _ => .inl ⟨rfl, rfl⟩⟩⟩
      | cons s0 S =>
        repeat'
         conv => whnf
         first
          | refine zA ?_ | refine zB ?_ | refine zC ?_ | refine zD ?_ | refine zE ?_ | refine zF ?_ | refine zG ?_ | refine zH ?_ | refine zJ ?_ | refine zI ?_ | refine splT ?_ | refine splF ?_ | refine splNot ?_
          | ((first | refine splIn (fun hc => ?_) (fun hc => ?_) | refine splD (fun hc => ?_) (fun hc => ?_) | refine splE (fun hc => ?_) (fun hc => ?_) | refine splNE (fun hc => ?_) (fun hc => ?_)) <;> first | (exfalso; omega) | (exfalso; dsimp only at hc; omega) | skip)
        all_goals first | (exfalso; omega) | exact ⟨fun w' h => h, fun β w' hBB hblk => ⟨((none, 0), (some ⟨β 2, 0, none⟩, β 3)), rfl, fun _ _ => .inl ⟨rfl, rfl⟩⟩⟩
    | cons p0 P =>
      cases S with
      | nil =>
        repeat'
         conv => whnf
         first
          | refine zA ?_ | refine zB ?_ | refine zC ?_ | refine zD ?_ | refine zE ?_ | refine zF ?_ | refine zG ?_ | refine zH ?_ | refine zJ ?_ | refine zI ?_ | refine splT ?_ | refine splF ?_ | refine splNot ?_
          | ((first | refine splIn (fun hc => ?_) (fun hc => ?_) | refine splD (fun hc => ?_) (fun hc => ?_) | refine splE (fun hc => ?_) (fun hc => ?_) | refine splNE (fun hc => ?_) (fun hc => ?_)) <;> first | (exfalso; omega) | (exfalso; dsimp only at hc; omega) | skip)
        all_goals first | (exfalso; omega) | exact ⟨fun w' h => h, fun β w' hBB hblk => ⟨((some ⟨β 0, 0, none⟩, β 1), (none, 0)), rfl, (hblk 0 _ rfl rfl).imp fun _ q => Rd.of_owns (sz := 1) (f := iF) (bs := p0 :: P) (fun _ => rfl) rfl rfl q⟩⟩
      | cons s0 S =>
        repeat'
         conv => whnf
         first
          | refine zA ?_ | refine zB ?_ | refine zC ?_ | refine zD ?_ | refine zE ?_ | refine zF ?_ | refine zG ?_ | refine zH ?_ | refine zJ ?_ | refine zI ?_ | refine splT ?_ | refine splF ?_ | refine splNot ?_
          | ((first | refine splIn (fun hc => ?_) (fun hc => ?_) | refine splD (fun hc => ?_) (fun hc => ?_) | refine splE (fun hc => ?_) (fun hc => ?_) | refine splNE (fun hc => ?_) (fun hc => ?_)) <;> first | (exfalso; omega) | (exfalso; dsimp only at hc; omega) | skip)
        all_goals first | (exfalso; omega) | exact ⟨fun w' h => h, fun β w' hBB hblk => ⟨((some ⟨β 0, 0, none⟩, β 1), (some ⟨β 2, 0, none⟩, β 3)), rfl, (hblk 0 _ rfl rfl).imp fun _ q => Rd.of_owns (sz := 1) (f := iF) (bs := p0 :: P) (fun _ => rfl) rfl rfl q⟩⟩
set_option maxHeartbeats 2000000 in
set_option maxRecDepth 100000 in
theorem Flows_ok (N : List Nd) (o : Option Addr) (c : Nat) (w : World) (hN : Rd 5 Nd.cs (.slice o N.length c) N w) (h : GdOk N) : Calls Try.prog 21 #[gdV o N.length c] w fun e w' => ∃ y : (Option Addr × Nat) × (Option Addr × Nat), e = .returned (.tuple #[sV N.length y.1, sV N.length y.2, iv 0]) ∧ Below w.heap.size w w' ∧ St w.heap.size (fun w2 => Rd 2 gF (sV N.length y.1) (flow N N.length) w2) w' := by
  have h50 := fun (w' : World) (hb : Below w.heap.size w w') => gridV_ok N o c w' (hN.below hb) h
  have h51 := fun (w' : World) (hb : Below w.heap.size w w') => flows_ok N o c w' (hN.below hb) h
  have hl := h.l
  refine calls_fam env mixed Try.func21 has21 Try.ntmps21 [gdV o N.length c] (by simp) ?_
  repeat'
   conv => whnf
   first
    | refine zA ?_ | refine zB ?_ | refine zC ?_ | refine zD ?_ | refine zE ?_ | refine zF ?_ | refine zG ?_ | refine zH ?_ | refine zJ ?_ | refine zI ?_ | refine splT ?_ | refine splF ?_ | refine splNot ?_
    | ((first | refine splIn (fun hc => ?_) (fun hc => ?_) | refine splD (fun hc => ?_) (fun hc => ?_) | refine splE (fun hc => ?_) (fun hc => ?_) | refine splNE (fun hc => ?_) (fun hc => ?_)) <;> first | (exfalso; omega) | (exfalso; dsimp only at hc; omega) | skip)
    | ((with_reducible show CallEv _ _ 50 _ _ _ _ _); refine callE (k := 50) (fun β w' hbw => h50 _ hbw) ?_)
    | ((with_reducible show CallEv _ _ 51 _ _ _ _ _); refine callF [] (fun y : (Option Addr × Nat) × (Option Addr × Nat) => .tuple #[sV N.length y.1, sV N.length y.2]) (fun y => St w.heap.size (Rd 2 gF (sV N.length y.1) (flow N N.length))) (fun β w' _ hbw => (h51 w' hbw).mono fun e w2 ⟨y, q1, q2, q3⟩ => ⟨y, q1, q2, q3.st.imp fun w3 q => q.mono hbw.size⟩) ?_; intro y; obtain ⟨⟨y1, y2⟩, ⟨y3, y4⟩⟩ := y; dsimp only)
  all_goals first | (exfalso; omega) | exact ⟨fun w' h => h.1, fun β w' hBB hblk => ⟨((y1, y2), (y3, y4)), rfl, hBB.2⟩⟩
set_option maxHeartbeats 2000000 in
set_option maxRecDepth 100000 in
theorem Blown_ok (N : List Nd) (o : Option Addr) (c : Nat) (w : World) (hN : Rd 5 Nd.cs (.slice o N.length c) N w) (h : GdOk N) : Calls Try.prog 22 #[gdV o N.length c] w fun e w' => ∃ y : (Option Addr × Nat) × (Option Addr × Nat), e = .returned (.tuple #[sV (abL (pfB N (flow N N.length)) N.length).length y.1, sV (abL (sfB2 N (flow N N.length)) N.length).length y.2, iv 0]) ∧ Below w.heap.size w w' ∧ St w.heap.size (fun w2 => Rd 1 iF (sV (abL (pfB N (flow N N.length)) N.length).length y.1) (abL (pfB N (flow N N.length)) N.length) w2) w' := by
  have h50 := fun (w' : World) (hb : Below w.heap.size w w') => gridV_ok N o c w' (hN.below hb) h
  have h51 := fun (w' : World) (hb : Below w.heap.size w w') => flows_ok N o c w' (hN.below hb) h
  have hl := h.l
  have hfl := flow_len N N.length
  generalize flow N N.length = F at *
  have h52 := fun (y : Option Addr × Nat) (w' : World) (hb : Below w.heap.size w w' ∧ Rd 2 gF (sV N.length y) F w') => above_ok N o c F y.1 y.2 w' (hN.below hb.1) (by rw [hfl]; exact hb.2) hl.2 hfl
  rw [hfl] at h52
  generalize abL (pfB N F) N.length = P at *
  generalize abL (sfB2 N F) N.length = S at *
  refine calls_fam env mixed Try.func22 has22 Try.ntmps22 [gdV o N.length c] (by simp) ?_
  repeat'
   conv => whnf
   first
    | refine zA ?_ | refine zB ?_ | refine zC ?_ | refine zD ?_ | refine zE ?_ | refine zF ?_ | refine zG ?_ | refine zH ?_ | refine zJ ?_ | refine zI ?_ | refine splT ?_ | refine splF ?_ | refine splNot ?_
    | ((first | refine splIn (fun hc => ?_) (fun hc => ?_) | refine splD (fun hc => ?_) (fun hc => ?_) | refine splE (fun hc => ?_) (fun hc => ?_) | refine splNE (fun hc => ?_) (fun hc => ?_)) <;> first | (exfalso; omega) | (exfalso; dsimp only at hc; omega) | skip)
    | ((with_reducible show CallEv _ _ 50 _ _ _ _ _); refine callE (k := 50) (fun β w' hbw => h50 _ hbw) ?_)
    | refine mkMv (gdV o N.length c) rfl (fun β => rfl) rfl ?_
    | ((with_reducible show CallEv _ _ 51 _ _ _ _ _); refine callF [] (fun y : (Option Addr × Nat) × (Option Addr × Nat) => .tuple #[sV N.length y.1, sV N.length y.2]) (fun y => Rd 2 gF (sV N.length y.1) F) (fun β w' _ hbw => h51 w' hbw) ?_; intro y; obtain ⟨⟨y1, y2⟩, ⟨y3, y4⟩⟩ := y; dsimp only)
    | ((with_reducible show CallEv _ _ 52 _ _ _ _ _); refine callF [] (fun y : (Option Addr × Nat) × (Option Addr × Nat) => .tuple #[sV P.length y.1, sV S.length y.2]) (fun y => St w.heap.size (Rd 1 iF (sV P.length y.1) P)) (fun β w' _ hbw => (h52 (y1, y2) w' hbw).mono fun e w2 ⟨y, q1, q2, q3⟩ => ⟨y, q1, q2, q3.st.imp fun w3 q => q.mono hbw.1.size⟩) ?_; intro z; obtain ⟨⟨z1, z2⟩, ⟨z3, z4⟩⟩ := z; dsimp only)
  all_goals first | (exfalso; omega) | exact ⟨fun w' h => h.1.1, fun β w' hBB hblk => ⟨((z1, z2), (z3, z4)), rfl, hBB.2⟩⟩
end Go.Proofs.Ytfbokllafdnglaa
