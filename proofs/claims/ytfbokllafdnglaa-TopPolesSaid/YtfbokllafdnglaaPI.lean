/- A pole under its guys: what Over returns of it; the list of poles that are overloaded. -/
import Derived.Test.YtfbokllafdnglaaPG
namespace Go.Proofs.Ytfbokllafdnglaa
open Go Tx Go.RowKit
set_option linter.unusedSimpArgs false
set_option linter.unusedVariables false

def ldG (g : Gy) : Ld := ⟨-1, 0, 0, 0, g.dn⟩
theorem ldG_at (G : List Gy) : atP 1 (G.map ldG) := fun l hl => by
  obtain ⟨g, _, rfl⟩ := List.mem_map.1 hl
  exact ⟨rfl, by simp [ldG], by simp [ldG]⟩
theorem hiP_ldG {r : Rig} (h : r.f0 = 1000) (g : Gy) : hiP r (ldG g) = g.dn := by
  show (g.dn * r.f0 + 999) / 1000 = g.dn
  rw [h]; omega
theorem smP_ldG {r : Rig} (h : r.f0 = 1000) : ∀ G : List Gy, smP (enF r true) 0 (G.map ldG) = gsm G
  | [] => rfl
  | g :: G => by
    rw [List.map_cons, smP, smP_ldG h G, gsm]
    have : (ldG g).at' = ((0 : Nat) : Int) := rfl
    rw [if_pos this]
    show (if true = true then hiP r (ldG g) else _) + _ = _
    rw [if_pos rfl, hiP_ldG h]
theorem pole_rok {f0 f1 f2 be : Int} {G : List Gy} (h : f0 = 1000 ∧ f1 = 1000 ∧ f2 = 1000) (hb : 0 ≤ be ∧ be ≤ 1000000) (hG : G.length ≤ 8) (hd : ∀ g ∈ G, 0 ≤ g.dn ∧ g.dn ≤ 5000) : rigOk f0 f1 f2 [be] [] (G.map ldG) = true := by
  obtain ⟨rfl, rfl, rfl⟩ := h
  rw [rigOk_iff]
  refine ⟨⟨by simp, by simp⟩, ?_, by decide, rfl, by rw [List.length_map]; omega, by decide, ?_⟩
  · simp only [List.all_cons, List.all_nil, Bool.and_true, inB_iff]; omega
  · rw [List.all_eq_true]
    intro l hl
    obtain ⟨g, hg, rfl⟩ := List.mem_map.1 hl
    have := hd g hg
    rw [ldOk_iff]
    refine ⟨by simp [hasB, ldG, inB], by simp [ldG], by simp [ldG], ?_, ?_⟩
    · show 0 ≤ g.dn ∧ g.dn ≤ 1000000
      omega
    · show (0 : Int) ≤ g.dn
      omega
theorem pole_ov {r : Rig} {be : Int} {G : List Gy} (h : r.f0 = 1000) (hG : G.length ≤ 8) : ovO r [be] [] (G.map ldG) (frF [] (G.map ldG)) = if gsm G > be then some (-1, 0, (frF [] (G.map ldG)).p 0) else none := by
  rw [ovO_at (ldG_at G) (by rw [List.length_map]; omega)]
  have e : ovP r [be] (G.map ldG) = if gsm G > be then 0 else 1 := by
    show (if decide (smP (enF r true) 0 (G.map ldG) > be) = true then 0 else 1) = _
    rw [smP_ldG h]
    by_cases hc : gsm G > be <;> simp [hc]
  rw [e]
  by_cases hc : gsm G > be
  · rw [if_pos hc, if_pos hc, if_pos (by simp)]; rfl
  · rw [if_neg hc, if_neg hc, if_neg (by simp)]
theorem pole_over (r : Rig) (be : Int) (G : List Gy) (w : World) (h : r.f0 = 1000 ∧ r.f1 = 1000 ∧ r.f2 = 1000) (hb : 0 ≤ be ∧ be ≤ 1000000) (hG : G.length ≤ 8) (hd : ∀ g ∈ G, 0 ≤ g.dn ∧ g.dn ≤ 5000) (hin : RigIn r [be] [] (G.map ldG) w) (hgt : gsm G > be) :
    Calls Try.prog 11 #[r.v] w fun e w' => ∃ y : Option Addr × Nat, e = .returned (.tuple #[.agg #[iv (-1), iv 0], sV G.length y, iv 0]) ∧ Below w.heap.size w w' ∧ St w.heap.size (fun _ => True) w' := by
  have hrk := pole_rok (f0 := r.f0) (f1 := r.f1) (f2 := r.f2) h hb hG hd
  refine (Over_ok r [be] [] (G.map ldG) w hin).mono fun e w' ⟨y, h1, h2, _⟩ => ⟨y, ?_, h2, fun _ _ => trivial⟩
  have e1 : ovR r [be] [] (G.map ldG) = some (-1, 0, (frF [] (G.map ldG)).p 0) := by
    unfold ovR
    rw [if_pos hrk, pole_ov h.1 hG, if_pos hgt]
  rw [e1, hrk] at h1
  rw [h1]
  have e2 : (Wk.pl r (G.map ldG) true (some (-1, 0, (frF [] (G.map ldG)).p 0))).length = G.length := by
    show (endL r _ true (G.map ldG)).length = _
    rw [endL_len, List.length_map]
  rw [e2]
  rfl
theorem pole_none (r : Rig) (be : Int) (G : List Gy) (w : World) (h : r.f0 = 1000 ∧ r.f1 = 1000 ∧ r.f2 = 1000) (hb : 0 ≤ be ∧ be ≤ 1000000) (hG : G.length ≤ 8) (hd : ∀ g ∈ G, 0 ≤ g.dn ∧ g.dn ≤ 5000) (hin : RigIn r [be] [] (G.map ldG) w) (hgt : ¬ gsm G > be) :
    Calls Try.prog 11 #[r.v] w fun e w' => ∃ y : Option Addr × Nat, e = .returned (.tuple #[.agg #[iv 0, iv 0], sV 0 y, iv 7]) ∧ Below w.heap.size w w' ∧ St w.heap.size (fun _ => True) w' := by
  have hrk := pole_rok (f0 := r.f0) (f1 := r.f1) (f2 := r.f2) h hb hG hd
  refine (Over_ok r [be] [] (G.map ldG) w hin).mono fun e w' ⟨y, h1, h2, _⟩ => ⟨y, ?_, h2, fun _ _ => trivial⟩
  have e1 : ovR r [be] [] (G.map ldG) = none := by
    unfold ovR
    rw [if_pos hrk, pole_ov h.1 hG, if_neg hgt]
  rw [e1, hrk] at h1
  exact h1
theorem ovl_more (T : List Hd) (i : Nat) : ∀ m, ∃ R, ovl T (i + m) = ovl T i ++ R ∧ ∀ n ∈ R, (i : Int) ≤ n
  | 0 => ⟨[], by simp, fun n hn => by cases hn⟩
  | m + 1 => by
    obtain ⟨R, h1, h2⟩ := ovl_more T i m
    refine ⟨R ++ (if ovB T (i + m) = true then [((i + m : Nat) : Int)] else []), ?_, fun n hn => ?_⟩
    · show ovl T (i + m) ++ _ = _
      rw [h1, List.append_assoc]; rfl
    · rcases List.mem_append.1 hn with hn | hn
      · exact h2 n hn
      · split at hn
        · rw [List.mem_singleton] at hn; subst hn; omega
        · cases hn
/-- Where the next one stands. -/
theorem ovl_at (T : List Hd) {i N : Nat} (h : i < N) : (ovB T i = true → (ovl T N)[(ovl T i).length]? = some (i : Int)) ∧ (ovB T i = false → (ovl T N).length = (ovl T i).length ∨ ∃ m : Int, (ovl T N)[(ovl T i).length]? = some m ∧ m ≠ i) ∧ (ovl T i).length ≤ (ovl T N).length := by
  obtain ⟨R, h1, h2⟩ := ovl_more T (i + 1) (N - (i + 1))
  rw [show i + 1 + (N - (i + 1)) = N from by omega] at h1
  rw [h1, ovl]
  refine ⟨fun hb => ?_, fun hb => ?_, by simp⟩
  · rw [if_pos hb, List.append_assoc, List.getElem?_append_right (Nat.le_refl _), Nat.sub_self]; rfl
  · rw [if_neg (by simp [hb]), List.append_nil, List.getElem?_append_right (Nat.le_refl _), Nat.sub_self]
    cases R with
    | nil => exact .inl (by simp)
    | cons m R => exact .inr ⟨m, rfl, by have := h2 m List.mem_cons_self; omega⟩
theorem ovB_d {T S : List Hd} (h : S.map Hd.d = T.map Hd.d) (k : Nat) : ovB S k = ovB T k := by
  have e : (S.map Hd.d)[k]? = (T.map Hd.d)[k]? := by rw [h]
  rw [List.getElem?_map, List.getElem?_map] at e
  unfold ovB
  cases h1 : S[k]? <;> cases h2 : T[k]? <;> rw [h1, h2] at e <;> simp [Hd.d] at e ⊢
  obtain ⟨_, e2, e3⟩ := e
  rw [e2, e3]
theorem ovl_d {T S : List Hd} (h : S.map Hd.d = T.map Hd.d) : ∀ k, ovl S k = ovl T k
  | 0 => rfl
  | k + 1 => by rw [ovl, ovl, ovl_d h k, ovB_d h k]
theorem ttOk_d {T S : List Hd} (h : S.map Hd.d = T.map Hd.d) : ttOk S = ttOk T := by
  have hf : ∀ L : List Hd, ttOk L = ((L.map Hd.d).all (fun x => inB x.1 0 1000 && (inB x.2.1 0 10000000 && (decide (x.2.2.length ≤ 8) && x.2.2.all gyOk))) && (decide (1 ≤ (L.map Hd.d).length) && decide ((L.map Hd.d).length ≤ 12))) := fun L => by
    rw [List.all_map, List.length_map]; rfl
  rw [hf, hf, h]
end Go.Proofs.Ytfbokllafdnglaa
