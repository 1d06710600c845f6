/- The chain of an act by the reference: what it returns. -/
import Derived.Test.YtlehjapeomallaaVJ
namespace Go.Proofs.Ytlehjapeomallaa.V
open Go Tx Go.RowKit
set_option linter.unusedSimpArgs false
set_option linter.unusedVariables false

/-- The first run of good releases from a tick on: its last release. -/
def frs (p : Fg × List Bx) (need fr : Int) : Option Int := srch (gd p.1 p.2) fr need (6001 - fr).toNat 0
/-- The chain from a flight on: the windows, and the number of the flight that has none. -/
def chn (need rst : Int) : List (Fg × List Bx) → Nat → Int → List (Int × Int) → List (Int × Int) × Option Nat
  | [], _, _, acc => (acc, none)
  | p :: r, i, fr, acc => match frs p need fr with
    | none => ([], some i)
    | some q => chn need rst r (i + 1) (q + p.1.mo + rst) (acc ++ [(q - need + 1, q)])
theorem srch_bd {p : Int → Bool} {a need : Int} : ∀ {n k : Nat} {r : Int}, srch p a need n k = some r → a + k ≤ r ∧ r < a + k + n
  | 0, _, _, h => by simp [srch] at h
  | n + 1, k, r, h => by
    rw [srch] at h
    split at h
    · cases h; omega
    · have := srch_bd h; omega
theorem frs_bd {p : Fg × List Bx} {need fr q : Int} (h : frs p need fr = some q) : fr ≤ q ∧ q ≤ 6000 := by
  have := srch_bd h
  omega
theorem chn_drop {need rst : Int} {act : List (Fg × List Bx)} {k : Nat} {p : Fg × List Bx} (h : act[k]? = some p) (fr : Int) (acc : List (Int × Int)) :
    chn need rst (act.drop k) k fr acc = match frs p need fr with | none => ([], some k) | some q => chn need rst (act.drop (k + 1)) (k + 1) (q + p.1.mo + rst) (acc ++ [(q - need + 1, q)]) := by
  obtain ⟨h1, h2⟩ := List.getElem?_eq_some_iff.1 h
  rw [List.drop_eq_getElem_cons h1, h2, chn]
def noI : Option Nat → Int
  | none => -1
  | some i => i

set_option maxRecDepth 100000 in
theorem Rchain_ok (act : List (Fg × List Bx)) (o : Option Addr) (c : Nat) (need rst : Int) (w : World) (hrd : Rd 15 csP (.slice o act.length c) act w) (hl : act.length ≤ 12) (hn : 1 ≤ need ∧ need ≤ 100) (hr : 0 ≤ rst ∧ rst ≤ 1000)
    (hbx : ∀ p ∈ act, Rd 4 Bx.cs (.slice p.1.o p.1.n p.1.c) p.2 w ∧ p.1.ok p.2 = true) :
    Calls Try.prog 52 #[.slice o act.length c, iv need, iv rst] w fun e w' => ∃ y : Option Addr × Nat, e = .returned (.tuple #[sV (chn need rst act 0 0 []).1.length y, iv (noI (chn need rst act 0 0 []).2)]) ∧ Below w.heap.size w w' ∧
      St w.heap.size (Rd 2 wF (sV (chn need rst act 0 0 []).1.length y) (chn need rst act 0 0 []).1) w' := by
  refine calls_fam env mixed Try.func52 has52 Try.ntmps52 [.slice o act.length c, iv need, iv rst] (by simp) ?_
  repeat'
    conv => whnf
    first
      | refine And.intro (a := drawB _ = true) (by kernel_rfl) ?_
      | refine And.intro (a := (_ : Bool) = true) rfl ?_
      | refine And.intro (a := (_ : Bool) = true ∧ (_ : Bool) = true) ⟨rfl, rfl⟩ ?_
      | refine And.intro (a := (_ : Bool) = true ∧ (_ : List _) = []) ⟨rfl, rfl⟩ ?_
      | refine And.intro (a := IR _ _) (And.intro (by omega) (by omega)) ?_
      | refine wrapE (And.intro (by omega) (by omega)) ?_
      | refine And.intro (a := (0 : Int) ≤ _ ∧ _ < _) (And.intro (by omega) (by omega)) ?_
      | refine And.intro (a := (_ : Bool) = true) (by simp only [Nat.beq_refl]; rfl) ?_
      | refine And.intro (a := ((_ : Bool) = true → 1 ≤ _) ∧ _ ≤ 9223372036854775807 ∧ _ ≤ 140737488355328) ⟨fun h => (by first | omega | cases h), by omega, by omega⟩ ?_
      | refine splT ?_
      | refine splF ?_
      | refine splNot ?_
      | (refine splIn (fun hc => ?_) (fun hc => ?_) <;> first | (exfalso; omega) | (exfalso; dsimp only at hc; omega) | skip)
      | (refine splD (fun hc => ?_) (fun hc => ?_) <;> first | (exfalso; omega) | (exfalso; dsimp only at hc; omega) | skip)
      | (refine splE (fun hc => ?_) (fun hc => ?_) <;> first | (exfalso; omega) | (exfalso; dsimp only at hc; omega) | skip)
      | (refine splNE (fun hc => ?_) (fun hc => ?_) <;> first | (exfalso; omega) | (exfalso; dsimp only at hc; omega) | skip)
  refine loopN 3 (fun x : Nat × Int × List (Int × Int) => [(0, .v (.slice o act.length c)), (1, .v (iv need)), (2, .v (iv rst)), (8, oSV 1 2 x.2.2), (9, .v (iv x.2.1)), (10, .v (iv x.1))]) (fun x => oM 1 2 2 wF 94 x.2.2)
    (fun x => x.1 ≤ act.length ∧ (0 ≤ x.2.1 ∧ x.2.1 ≤ 7400) ∧ x.2.2.length ≤ x.1 ∧ chn need rst (act.drop x.1) x.1 x.2.1 x.2.2 = chn need rst act 0 0 []) (fun x => act.length - x.1) (0, 0, []) ⟨Nat.zero_le _, ⟨Int.le_refl _, by show (0 : Int) ≤ _; omega⟩, Nat.le_refl _, rfl⟩ ⟨rfl, rfl, rfl, rfl, rfl, rfl, trivial⟩ trivial (fun x _ => by obtain ⟨k, fr, L⟩ := x; cases L <;> exact ⟨rfl, rfl⟩) ?_
  rintro ⟨k, fr, L⟩ ⟨hk, hfr, hlk, hch⟩
  dsimp only at hk hfr hlk hch
  have hi : ((k + 1 : Nat) : Int) = (k : Int) + 1 := by omega
  rcases Nat.lt_or_ge k act.length with hkl | hkl
  · obtain ⟨p, hb⟩ : ∃ b, act[k]? = some b := ⟨_, List.getElem?_eq_getElem hkl⟩
    obtain ⟨_, ad, rfl, _⟩ := hrd.some (by omega)
    have e0 := fun (w' : World) hw' => rd_ati (hrd.below (w' := w') hw') hb
    have e1 := fun (w' : World) hw' => rd_fld (hrd.below (w' := w') hw') hb
    obtain ⟨hr1, hg⟩ := hbx _ (List.mem_of_getElem? hb)
    have hv := fun w' hb => First_ok p.1 p.2 fr need w' hg (by omega) hn (Rd.below (w' := w') hr1 hb)
    have hg' := Fg.ok_iff.1 hg
    rw [chn_drop hb] at hch
    rw [show srch (gd p.1 p.2) fr need (6001 - fr).toNat 0 = frs p need fr from rfl] at hv
    cases hf : frs p need fr with
    | none =>
      rw [hf] at hch hv
      rw [← hch]
      cases L <;> try simp only [List.length_cons] at hlk
      all_goals skip
      repeat'
        conv => whnf
        first
          | refine And.intro (a := drawB _ = true) (by kernel_rfl) ?_
          | refine And.intro (a := (_ : Bool) = true) rfl ?_
          | refine And.intro (a := (_ : Bool) = true ∧ (_ : Bool) = true) ⟨rfl, rfl⟩ ?_
          | refine And.intro (a := (_ : Bool) = true ∧ (_ : List _) = []) ⟨rfl, rfl⟩ ?_
          | refine And.intro (a := IR _ _) (And.intro (by omega) (by omega)) ?_
          | refine wrapE (And.intro (by omega) (by omega)) ?_
          | refine And.intro (a := (0 : Int) ≤ _ ∧ _ < _) (And.intro (by omega) (by omega)) ?_
          | refine And.intro (a := (_ : Bool) = true) (by simp only [Nat.beq_refl]; rfl) ?_
          | refine And.intro (a := ((_ : Bool) = true → 1 ≤ _) ∧ _ ≤ 9223372036854775807 ∧ _ ≤ 140737488355328) ⟨fun h => (by first | omega | cases h), by omega, by omega⟩ ?_
          | refine splT ?_
          | refine splF ?_
          | refine splNot ?_
          | (refine splIn (fun hc => ?_) (fun hc => ?_) <;> first | (exfalso; omega) | (exfalso; dsimp only at hc; omega) | skip)
          | (refine splD (fun hc => ?_) (fun hc => ?_) <;> first | (exfalso; omega) | (exfalso; dsimp only at hc; omega) | skip)
          | (refine splE (fun hc => ?_) (fun hc => ?_) <;> first | (exfalso; omega) | (exfalso; dsimp only at hc; omega) | skip)
          | (refine splNE (fun hc => ?_) (fun hc => ?_) <;> first | (exfalso; omega) | (exfalso; dsimp only at hc; omega) | skip)
          | refine Exists.intro (α := List Value) p.1.cs ⟨⟨rfl, fun w' hw' => e0 w' hw'⟩, ?_⟩
          | ((with_reducible show CallEv _ _ 77 _ _ _ _ _); refine callE (k := 77) (fun β w' hbw => hv _ hbw) ?_)
      all_goals exact ⟨fun w' h => h, fun β w' hB hblk => ⟨(none, 0), rfl, fun _ _ => .inl ⟨rfl, rfl⟩⟩⟩
    | some q =>
      rw [hf] at hch hv
      have hq := frs_bd hf
      dsimp only at hch
      cases L <;> try simp only [List.length_cons] at hlk
      all_goals skip
      repeat'
        conv => whnf
        first
          | refine And.intro (a := drawB _ = true) (by kernel_rfl) ?_
          | refine And.intro (a := (_ : Bool) = true) rfl ?_
          | refine And.intro (a := (_ : Bool) = true ∧ (_ : Bool) = true) ⟨rfl, rfl⟩ ?_
          | refine And.intro (a := (_ : Bool) = true ∧ (_ : List _) = []) ⟨rfl, rfl⟩ ?_
          | refine And.intro (a := IR _ _) (And.intro (by omega) (by omega)) ?_
          | refine wrapE (And.intro (by omega) (by omega)) ?_
          | refine And.intro (a := (0 : Int) ≤ _ ∧ _ < _) (And.intro (by omega) (by omega)) ?_
          | refine And.intro (a := (_ : Bool) = true) (by simp only [Nat.beq_refl]; rfl) ?_
          | refine And.intro (a := ((_ : Bool) = true → 1 ≤ _) ∧ _ ≤ 9223372036854775807 ∧ _ ≤ 140737488355328) ⟨fun h => (by first | omega | cases h), by omega, by omega⟩ ?_
          | refine splT ?_
          | refine splF ?_
          | refine splNot ?_
          | (refine splIn (fun hc => ?_) (fun hc => ?_) <;> first | (exfalso; omega) | (exfalso; dsimp only at hc; omega) | skip)
          | (refine splD (fun hc => ?_) (fun hc => ?_) <;> first | (exfalso; omega) | (exfalso; dsimp only at hc; omega) | skip)
          | (refine splE (fun hc => ?_) (fun hc => ?_) <;> first | (exfalso; omega) | (exfalso; dsimp only at hc; omega) | skip)
          | (refine splNE (fun hc => ?_) (fun hc => ?_) <;> first | (exfalso; omega) | (exfalso; dsimp only at hc; omega) | skip)
          | refine Exists.intro (α := List Value) p.1.cs ⟨⟨rfl, fun w' hw' => e0 w' hw'⟩, ?_⟩
          | ((with_reducible show CallEv _ _ 77 _ _ _ _ _); refine callE (k := 77) (fun β w' hbw => hv _ hbw) ?_)
          | refine Exists.intro (α := List Value) [iv p.1.mo] ⟨⟨rfl, fun w' hw' => e1 w' hw' 14 _ rfl⟩, ?_⟩
      · exact ⟨(k + 1, q + p.1.mo + rst, [] ++ [(q - need + 1, q)]), ⟨by show k + 1 ≤ _; omega, by show 0 ≤ q + p.1.mo + rst ∧ q + p.1.mo + rst ≤ 7400; omega, by show _ ≤ k + 1; simp, hch⟩, by show _ - (k + 1) < _ - k; omega, Ent.ren (rho [(1, 5), (2, 6)]) rfl rfl ⟨rfl, rfl, rfl, rfl, rfl, rfl, trivial⟩ ⟨rfl, trivial⟩ fun _ h => h⟩
      · exact ⟨(k + 1, q + p.1.mo + rst, _ :: _ ++ [(q - need + 1, q)]), ⟨by show k + 1 ≤ _; omega, by show 0 ≤ q + p.1.mo + rst ∧ q + p.1.mo + rst ≤ 7400; omega, by show _ ≤ k + 1; simp; omega, hch⟩, by show _ - (k + 1) < _ - k; omega, Ent.ren (rho [(1, 5), (2, 6)]) rfl rfl ⟨rfl, rfl, rfl, by simp [oSV]; rfl, rfl, rfl, trivial⟩ ⟨by simp [oM]; rfl, trivial⟩ fun _ h => h⟩
  · obtain rfl : k = act.length := by omega
    rw [List.drop_of_length_le (Nat.le_refl _), chn] at hch
    rw [← hch]
    cases L with
    | nil =>
      repeat'
        conv => whnf
        first
          | refine And.intro (a := drawB _ = true) (by kernel_rfl) ?_
          | refine And.intro (a := (_ : Bool) = true) rfl ?_
          | refine And.intro (a := (_ : Bool) = true ∧ (_ : Bool) = true) ⟨rfl, rfl⟩ ?_
          | refine And.intro (a := (_ : Bool) = true ∧ (_ : List _) = []) ⟨rfl, rfl⟩ ?_
          | refine And.intro (a := IR _ _) (And.intro (by omega) (by omega)) ?_
          | refine wrapE (And.intro (by omega) (by omega)) ?_
          | refine And.intro (a := (0 : Int) ≤ _ ∧ _ < _) (And.intro (by omega) (by omega)) ?_
          | refine And.intro (a := (_ : Bool) = true) (by simp only [Nat.beq_refl]; rfl) ?_
          | refine And.intro (a := ((_ : Bool) = true → 1 ≤ _) ∧ _ ≤ 9223372036854775807 ∧ _ ≤ 140737488355328) ⟨fun h => (by first | omega | cases h), by omega, by omega⟩ ?_
          | refine splT ?_
          | refine splF ?_
          | refine splNot ?_
          | (refine splIn (fun hc => ?_) (fun hc => ?_) <;> first | (exfalso; omega) | (exfalso; dsimp only at hc; omega) | skip)
          | (refine splD (fun hc => ?_) (fun hc => ?_) <;> first | (exfalso; omega) | (exfalso; dsimp only at hc; omega) | skip)
          | (refine splE (fun hc => ?_) (fun hc => ?_) <;> first | (exfalso; omega) | (exfalso; dsimp only at hc; omega) | skip)
          | (refine splNE (fun hc => ?_) (fun hc => ?_) <;> first | (exfalso; omega) | (exfalso; dsimp only at hc; omega) | skip)
      exact ⟨fun w' h => h, fun β w' hB hblk => ⟨(none, 0), rfl, fun _ _ => .inl ⟨rfl, rfl⟩⟩⟩
    | cons a L =>
      repeat'
        conv => whnf
        first
          | refine And.intro (a := drawB _ = true) (by kernel_rfl) ?_
          | refine And.intro (a := (_ : Bool) = true) rfl ?_
          | refine And.intro (a := (_ : Bool) = true ∧ (_ : Bool) = true) ⟨rfl, rfl⟩ ?_
          | refine And.intro (a := (_ : Bool) = true ∧ (_ : List _) = []) ⟨rfl, rfl⟩ ?_
          | refine And.intro (a := IR _ _) (And.intro (by omega) (by omega)) ?_
          | refine wrapE (And.intro (by omega) (by omega)) ?_
          | refine And.intro (a := (0 : Int) ≤ _ ∧ _ < _) (And.intro (by omega) (by omega)) ?_
          | refine And.intro (a := (_ : Bool) = true) (by simp only [Nat.beq_refl]; rfl) ?_
          | refine And.intro (a := ((_ : Bool) = true → 1 ≤ _) ∧ _ ≤ 9223372036854775807 ∧ _ ≤ 140737488355328) ⟨fun h => (by first | omega | cases h), by omega, by omega⟩ ?_
          | refine splT ?_
          | refine splF ?_
          | refine splNot ?_
          | (refine splIn (fun hc => ?_) (fun hc => ?_) <;> first | (exfalso; omega) | (exfalso; dsimp only at hc; omega) | skip)
          | (refine splD (fun hc => ?_) (fun hc => ?_) <;> first | (exfalso; omega) | (exfalso; dsimp only at hc; omega) | skip)
          | (refine splE (fun hc => ?_) (fun hc => ?_) <;> first | (exfalso; omega) | (exfalso; dsimp only at hc; omega) | skip)
          | (refine splNE (fun hc => ?_) (fun hc => ?_) <;> first | (exfalso; omega) | (exfalso; dsimp only at hc; omega) | skip)
      refine ⟨fun w' h => h, fun β w' hB hblk => ?_⟩
      obtain ⟨y, h1, h2⟩ := oEnd (sz := 2) (f := wF) (fun _ => rfl) a L (hblk 1 _ rfl rfl)
      exact ⟨y, by first | exact congrArg (fun v => Value.tuple #[v, iv (-1)]) h1 | (show Value.tuple _ = _; simp [SV.cs]; exact h1), h2⟩
end Go.Proofs.Ytlehjapeomallaa.V
