/- Which gears are stale on a day, until when a gear is not: what the program's two functions return. -/
import Derived.Test.YtaciigegbgnadaaGE
namespace Go.Proofs.Ytaciigegbgnadaa
open Go Tx Go.RowKit
set_option linter.unusedSimpArgs false
set_option linter.unusedVariables false

theorem ensOk_all {n : Int} : ∀ {L : List En} {last : Int}, 0 ≤ last → ensOk n last L = true → ∀ x ∈ L, (0 ≤ x.hrs ∧ x.hrs ≤ 24) ∧ (last ≤ x.day ∧ x.day ≤ 10000) ∧ (0 ≤ x.num ∧ x.num ≤ n - 1)
  | [], _, _, _, x, hx => by cases hx
  | y :: r, last, h0, h, x, hx => by
    rw [ensOk, Bool.and_eq_true, enOk, Bool.and_eq_true, Bool.and_eq_true, inB_iff, inB_iff, inB_iff] at h
    rcases List.mem_cons.1 hx with rfl | hx
    · omega
    · have := ensOk_all (by omega) h.2 x hx
      omega
theorem lgE_ok {G : List (Int × Int)} {L : List En} (h : lgE G L = 0) : G.length ≤ 20 ∧ L.length ≤ 200 ∧ G.all gOk = true ∧ ensOk G.length 0 L = true ∧ EB L := by
  unfold lgE at h
  split at h
  · omega
  · rename_i h1
    split at h
    · rename_i h2
      split at h
      · rename_i h3
        exact ⟨by omega, by omega, h2, h3, by omega, fun x hx => by have := ensOk_all (Int.le_refl _) h3 x hx; omega⟩
      · omega
    · omega
theorem lgE_cases (G : List (Int × Int)) (L : List En) : lgE G L = 0 ∨ lgE G L = 1 ∨ lgE G L = 3 := by
  unfold lgE
  split
  · exact .inr (.inr rfl)
  · split
    · split
      · exact .inl rfl
      · exact .inr (.inl rfl)
    · exact .inr (.inl rfl)
/-- Is the k-th gear stale on a day? -/
def stI (G : List (Int × Int)) (L : List En) (day : Int) (k : Nat) : Bool := match G[k]? with | some g => stB g (stL k day L) day 0 | none => false
def staL (G : List (Int × Int)) (L : List En) (day : Int) : Nat → List Int
  | 0 => []
  | k + 1 => staL G L day k ++ (if stI G L day k = true then [(k : Int)] else [])
def staR (G : List (Int × Int)) (L : List En) (day : Int) : List Int := if lgE G L = 0 ∧ (0 ≤ day ∧ day ≤ 10000) then staL G L day G.length else []
def staE (G : List (Int × Int)) (L : List En) (day : Int) : Int := if lgE G L = 0 then (if 0 ≤ day ∧ day ≤ 10000 then 0 else 2) else lgE G L
theorem staL_len (G : List (Int × Int)) (L : List En) (day : Int) : ∀ k, (staL G L day k).length ≤ k
  | 0 => Nat.le_refl _
  | k + 1 => by
    have := staL_len G L day k
    rw [staL, List.length_append]
    split <;> simp <;> omega

set_option maxHeartbeats 1000000 in
set_option maxRecDepth 100000 in
theorem Stale_ok (G : List (Int × Int)) (L : List En) (o p : Option Addr) (c d : Nat) (day : Int) (w : World) (hG : Rd 2 gF (.slice o G.length c) G w) (hL : Rd 4 En.cs (.slice p L.length d) L w) (hg : G.length ≤ 1000000) (hl : L.length ≤ 1000000) :
    Calls Try.prog 17 #[.slice o G.length c, .slice p L.length d, iv day] w fun e w' => ∃ y : Option Addr × Nat, e = .returned (.tuple #[sV (staR G L day).length y, iv (staE G L day)]) ∧ Below w.heap.size w w' ∧ St w.heap.size (Rd 1 iF (sV (staR G L day).length y) (staR G L day)) w' := by
  refine calls_fam env mixed Try.func17 has17 Try.ntmps17 [.slice o G.length c, .slice p L.length d, iv day] (by simp) ?_
  have hC := fun w' (hb : Below w.heap.size w w') => CheckLog_ok G L o p c d w' (hG.below hb) (hL.below hb) hg hl
  by_cases he : lgE G L = 0
  · rw [he] at hC
    obtain ⟨b1, b2, _, _, hE⟩ := lgE_ok he
    by_cases hd : 0 ≤ day ∧ day ≤ 10000
    · rw [show staR G L day = staL G L day G.length from if_pos ⟨he, hd⟩, show staE G L day = 0 from by rw [staE, if_pos he, if_pos hd]]
      repeat'
        conv => whnf
        first
          | refine And.intro (a := drawB _ = true) (by kernel_rfl) ?_
          | refine And.intro (a := (_ : Bool) = true) rfl ?_
          | refine And.intro (a := (_ : Bool) = true ∧ (_ : Bool) = true) ⟨rfl, rfl⟩ ?_
          | refine And.intro (a := (_ : Bool) = true ∧ (_ : List _) = []) ⟨rfl, rfl⟩ ?_
          | refine And.intro (a := IR _ _) (And.intro (by omega) (by omega)) ?_
          | refine wrapE (And.intro (by omega) (by omega)) ?_
          | refine And.intro (a := (0 : Int) ≤ _ ∧ _ < _) (And.intro (by omega) (by omega)) ?_
          | refine And.intro (a := (_ : Bool) = true) (by simp only [Nat.beq_refl]; rfl) ?_
          | refine And.intro (a := ((_ : Bool) = true → 1 ≤ _) ∧ _ ≤ 9223372036854775807 ∧ _ ≤ 140737488355328) ⟨fun h => (by first | omega | cases h), by omega, by omega⟩ ?_
          | refine splT ?_
          | refine splF ?_
          | refine splNot ?_
          | (refine splIn (fun hc => ?_) (fun hc => ?_) <;> first | (exfalso; omega) | (exfalso; dsimp only at hc; omega) | skip)
          | (refine splD (fun hc => ?_) (fun hc => ?_) <;> first | (exfalso; omega) | (exfalso; dsimp only at hc; omega) | skip)
          | (refine splE (fun hc => ?_) (fun hc => ?_) <;> first | (exfalso; omega) | (exfalso; dsimp only at hc; omega) | skip)
          | (refine splNE (fun hc => ?_) (fun hc => ?_) <;> first | (exfalso; omega) | (exfalso; dsimp only at hc; omega) | skip)
          | ((with_reducible show CallEv _ _ 22 _ _ _ _ _); refine callE (k := 22) (fun β w' hbw => hC _ hbw) ?_)
          | ((with_reducible show CallEv _ _ 56 _ _ _ _ _); refine callE (k := 56) (fun β w' hbw => within_ok _ _ _ _) ?_)
      all_goals first | (exfalso; omega) | skip
      refine loopN 2 (fun k : Nat => [(1, .v (.slice p L.length d)), (2, .v (iv day)), (9, oSV 0 1 (staL G L day k)), (21, .v (.slice o G.length c)), (22, .v (iv G.length)), (23, .v (iv k))]) (fun k => oM 0 1 1 iF 3 (staL G L day k))
        (fun k => k ≤ G.length) (fun k => G.length - k) 0 (Nat.zero_le _) ⟨rfl, rfl, rfl, rfl, rfl, rfl, trivial⟩ trivial (fun k _ => by cases staL G L day k <;> exact ⟨rfl, rfl⟩) ?_
      intro k hk
      have hlen := staL_len G L day k
      rcases Nat.lt_or_ge k G.length with hkl | hkl
      · obtain ⟨g, hx⟩ : ∃ b, G[k]? = some b := ⟨_, List.getElem?_eq_getElem hkl⟩
        obtain ⟨_, ad, rfl, _⟩ := hG.ptr (by omega)
        have e0 := fun (w' : World) hw' => rd_ati (hG.below (w' := w') hw') hx
        have hst : staL G L day (k + 1) = staL G L day k ++ (if stI G L day k = true then [(k : Int)] else []) := rfl
        rw [show stI G L day k = stB g (stL k day L) day 0 from by rw [stI, hx]] at hst
        have hbd := stL_bdl (num := k) (day := day) hE
        have h57 := fun w' (hb : Below w.heap.size w w') => record_ok g L p d k day w' (hL.below hb) hE
        have h58 := fun w' => stale_ok g (stL k day L) day 0 w' hbd (by omega) (by omega)
        generalize stL k day L = s at *
        generalize stB g s day 0 = sb at *
        generalize staL G L day k = A at *
        cases sb with
        | false =>
          rw [if_neg (by simp), List.append_nil] at hst
          repeat'
            conv => whnf
            first
              | refine And.intro (a := drawB _ = true) (by kernel_rfl) ?_
              | refine And.intro (a := (_ : Bool) = true) rfl ?_
              | refine And.intro (a := (_ : Bool) = true ∧ (_ : Bool) = true) ⟨rfl, rfl⟩ ?_
              | refine And.intro (a := (_ : Bool) = true ∧ (_ : List _) = []) ⟨rfl, rfl⟩ ?_
              | refine And.intro (a := IR _ _) (And.intro (by omega) (by omega)) ?_
              | refine wrapE (And.intro (by omega) (by omega)) ?_
              | refine And.intro (a := (0 : Int) ≤ _ ∧ _ < _) (And.intro (by omega) (by omega)) ?_
              | refine And.intro (a := (_ : Bool) = true) (by simp only [Nat.beq_refl]; rfl) ?_
              | refine And.intro (a := ((_ : Bool) = true → 1 ≤ _) ∧ _ ≤ 9223372036854775807 ∧ _ ≤ 140737488355328) ⟨fun h => (by first | omega | cases h), by omega, by omega⟩ ?_
              | refine splT ?_
              | refine splF ?_
              | refine splNot ?_
              | (refine splIn (fun hc => ?_) (fun hc => ?_) <;> first | (exfalso; omega) | (exfalso; dsimp only at hc; omega) | skip)
              | (refine splD (fun hc => ?_) (fun hc => ?_) <;> first | (exfalso; omega) | (exfalso; dsimp only at hc; omega) | skip)
              | (refine splE (fun hc => ?_) (fun hc => ?_) <;> first | (exfalso; omega) | (exfalso; dsimp only at hc; omega) | skip)
              | (refine splNE (fun hc => ?_) (fun hc => ?_) <;> first | (exfalso; omega) | (exfalso; dsimp only at hc; omega) | skip)
              | refine Exists.intro (α := List Value) (gF g) ⟨⟨rfl, fun w' hw' => e0 w' hw'⟩, ?_⟩
              | ((with_reducible show CallEv _ _ 57 _ _ _ _ _); refine callE (k := 57) (fun β w' hbw => h57 _ hbw) ?_)
              | ((with_reducible show CallEv _ _ 58 _ _ _ _ _); refine callE (k := 58) (fun β w' hbw => h58 _) ?_)
          exact ⟨k + 1, by omega, by omega, Ent.weak rfl ⟨rfl, rfl, by rw [hst]; rfl, rfl, rfl, rfl, trivial⟩ (by rw [hst]; cases A <;> first | trivial | exact ⟨rfl, trivial⟩) fun _ h => h⟩
        | true =>
          rw [if_pos rfl] at hst
          cases A with
          | nil =>
            repeat'
              conv => whnf
              first
                | refine And.intro (a := drawB _ = true) (by kernel_rfl) ?_
                | refine And.intro (a := (_ : Bool) = true) rfl ?_
                | refine And.intro (a := (_ : Bool) = true ∧ (_ : Bool) = true) ⟨rfl, rfl⟩ ?_
                | refine And.intro (a := (_ : Bool) = true ∧ (_ : List _) = []) ⟨rfl, rfl⟩ ?_
                | refine And.intro (a := IR _ _) (And.intro (by omega) (by omega)) ?_
                | refine wrapE (And.intro (by omega) (by omega)) ?_
                | refine And.intro (a := (0 : Int) ≤ _ ∧ _ < _) (And.intro (by omega) (by omega)) ?_
                | refine And.intro (a := (_ : Bool) = true) (by simp only [Nat.beq_refl]; rfl) ?_
                | refine And.intro (a := ((_ : Bool) = true → 1 ≤ _) ∧ _ ≤ 9223372036854775807 ∧ _ ≤ 140737488355328) ⟨fun h => (by first | omega | cases h), by omega, by omega⟩ ?_
                | refine splT ?_
                | refine splF ?_
                | refine splNot ?_
                | (refine splIn (fun hc => ?_) (fun hc => ?_) <;> first | (exfalso; omega) | (exfalso; dsimp only at hc; omega) | skip)
                | (refine splD (fun hc => ?_) (fun hc => ?_) <;> first | (exfalso; omega) | (exfalso; dsimp only at hc; omega) | skip)
                | (refine splE (fun hc => ?_) (fun hc => ?_) <;> first | (exfalso; omega) | (exfalso; dsimp only at hc; omega) | skip)
                | (refine splNE (fun hc => ?_) (fun hc => ?_) <;> first | (exfalso; omega) | (exfalso; dsimp only at hc; omega) | skip)
                | refine Exists.intro (α := List Value) (gF g) ⟨⟨rfl, fun w' hw' => e0 w' hw'⟩, ?_⟩
                | ((with_reducible show CallEv _ _ 57 _ _ _ _ _); refine callE (k := 57) (fun β w' hbw => h57 _ hbw) ?_)
                | ((with_reducible show CallEv _ _ 58 _ _ _ _ _); refine callE (k := 58) (fun β w' hbw => h58 _) ?_)
            exact ⟨k + 1, by omega, by omega, Ent.ren (rho [(0, 4), (1, 5)]) rfl (by rw [hst]; rfl) ⟨rfl, rfl, by rw [hst]; rfl, rfl, rfl, rfl, trivial⟩ (by rw [hst]; exact ⟨rfl, trivial⟩) fun _ h => h⟩
          | cons a A =>
            simp only [List.length_cons] at hlen
            repeat'
              conv => whnf
              first
                | refine And.intro (a := drawB _ = true) (by kernel_rfl) ?_
                | refine And.intro (a := (_ : Bool) = true) rfl ?_
                | refine And.intro (a := (_ : Bool) = true ∧ (_ : Bool) = true) ⟨rfl, rfl⟩ ?_
                | refine And.intro (a := (_ : Bool) = true ∧ (_ : List _) = []) ⟨rfl, rfl⟩ ?_
                | refine And.intro (a := IR _ _) (And.intro (by omega) (by omega)) ?_
                | refine wrapE (And.intro (by omega) (by omega)) ?_
                | refine And.intro (a := (0 : Int) ≤ _ ∧ _ < _) (And.intro (by omega) (by omega)) ?_
                | refine And.intro (a := (_ : Bool) = true) (by simp only [Nat.beq_refl]; rfl) ?_
                | refine And.intro (a := ((_ : Bool) = true → 1 ≤ _) ∧ _ ≤ 9223372036854775807 ∧ _ ≤ 140737488355328) ⟨fun h => (by first | omega | cases h), by omega, by omega⟩ ?_
                | refine splT ?_
                | refine splF ?_
                | refine splNot ?_
                | (refine splIn (fun hc => ?_) (fun hc => ?_) <;> first | (exfalso; omega) | (exfalso; dsimp only at hc; omega) | skip)
                | (refine splD (fun hc => ?_) (fun hc => ?_) <;> first | (exfalso; omega) | (exfalso; dsimp only at hc; omega) | skip)
                | (refine splE (fun hc => ?_) (fun hc => ?_) <;> first | (exfalso; omega) | (exfalso; dsimp only at hc; omega) | skip)
                | (refine splNE (fun hc => ?_) (fun hc => ?_) <;> first | (exfalso; omega) | (exfalso; dsimp only at hc; omega) | skip)
                | refine Exists.intro (α := List Value) (gF g) ⟨⟨rfl, fun w' hw' => e0 w' hw'⟩, ?_⟩
                | ((with_reducible show CallEv _ _ 57 _ _ _ _ _); refine callE (k := 57) (fun β w' hbw => h57 _ hbw) ?_)
                | ((with_reducible show CallEv _ _ 58 _ _ _ _ _); refine callE (k := 58) (fun β w' hbw => h58 _) ?_)
            exact ⟨k + 1, by omega, by omega, Ent.ren (rho [(0, 4), (1, 5)]) rfl (by rw [hst]; rfl) ⟨rfl, rfl, by rw [hst]; simp [oSV]; rfl, rfl, rfl, rfl, trivial⟩ (by rw [hst]; exact ⟨by simp [oM]; rfl, trivial⟩) fun _ h => h⟩
      · obtain rfl : k = G.length := by omega
        generalize staL G L day G.length = A at *
        cases A with
        | nil =>
          repeat'
            conv => whnf
            first
              | refine And.intro (a := drawB _ = true) (by kernel_rfl) ?_
              | refine And.intro (a := (_ : Bool) = true) rfl ?_
              | refine And.intro (a := (_ : Bool) = true ∧ (_ : Bool) = true) ⟨rfl, rfl⟩ ?_
              | refine And.intro (a := (_ : Bool) = true ∧ (_ : List _) = []) ⟨rfl, rfl⟩ ?_
              | refine And.intro (a := IR _ _) (And.intro (by omega) (by omega)) ?_
              | refine wrapE (And.intro (by omega) (by omega)) ?_
              | refine And.intro (a := (0 : Int) ≤ _ ∧ _ < _) (And.intro (by omega) (by omega)) ?_
              | refine And.intro (a := (_ : Bool) = true) (by simp only [Nat.beq_refl]; rfl) ?_
              | refine And.intro (a := ((_ : Bool) = true → 1 ≤ _) ∧ _ ≤ 9223372036854775807 ∧ _ ≤ 140737488355328) ⟨fun h => (by first | omega | cases h), by omega, by omega⟩ ?_
              | refine splT ?_
              | refine splF ?_
              | refine splNot ?_
              | (refine splIn (fun hc => ?_) (fun hc => ?_) <;> first | (exfalso; omega) | (exfalso; dsimp only at hc; omega) | skip)
              | (refine splD (fun hc => ?_) (fun hc => ?_) <;> first | (exfalso; omega) | (exfalso; dsimp only at hc; omega) | skip)
              | (refine splE (fun hc => ?_) (fun hc => ?_) <;> first | (exfalso; omega) | (exfalso; dsimp only at hc; omega) | skip)
              | (refine splNE (fun hc => ?_) (fun hc => ?_) <;> first | (exfalso; omega) | (exfalso; dsimp only at hc; omega) | skip)
          exact ⟨fun w' h => h, fun β w' hB hblk => ⟨(none, 0), rfl, fun _ _ => .inl ⟨rfl, rfl⟩⟩⟩
        | cons a A =>
          repeat'
            conv => whnf
            first
              | refine And.intro (a := drawB _ = true) (by kernel_rfl) ?_
              | refine And.intro (a := (_ : Bool) = true) rfl ?_
              | refine And.intro (a := (_ : Bool) = true ∧ (_ : Bool) = true) ⟨rfl, rfl⟩ ?_
              | refine And.intro (a := (_ : Bool) = true ∧ (_ : List _) = []) ⟨rfl, rfl⟩ ?_
              | refine And.intro (a := IR _ _) (And.intro (by omega) (by omega)) ?_
              | refine wrapE (And.intro (by omega) (by omega)) ?_
              | refine And.intro (a := (0 : Int) ≤ _ ∧ _ < _) (And.intro (by omega) (by omega)) ?_
              | refine And.intro (a := (_ : Bool) = true) (by simp only [Nat.beq_refl]; rfl) ?_
              | refine And.intro (a := ((_ : Bool) = true → 1 ≤ _) ∧ _ ≤ 9223372036854775807 ∧ _ ≤ 140737488355328) ⟨fun h => (by first | omega | cases h), by omega, by omega⟩ ?_
              | refine splT ?_
              | refine splF ?_
              | refine splNot ?_
              | (refine splIn (fun hc => ?_) (fun hc => ?_) <;> first | (exfalso; omega) | (exfalso; dsimp only at hc; omega) | skip)
              | (refine splD (fun hc => ?_) (fun hc => ?_) <;> first | (exfalso; omega) | (exfalso; dsimp only at hc; omega) | skip)
              | (refine splE (fun hc => ?_) (fun hc => ?_) <;> first | (exfalso; omega) | (exfalso; dsimp only at hc; omega) | skip)
              | (refine splNE (fun hc => ?_) (fun hc => ?_) <;> first | (exfalso; omega) | (exfalso; dsimp only at hc; omega) | skip)
          exact ⟨fun w' h => h, fun β w' hB hblk => ⟨(some ⟨β 0, 0, none⟩, β 1), rfl, (hblk 0 _ rfl rfl).imp fun _ q => Rd.of_owns (sz := 1) (f := iF) (fun _ => rfl) rfl rfl q⟩⟩
    · rw [show staR G L day = [] from if_neg fun h => hd h.2, show staE G L day = 2 from by rw [staE, if_pos he, if_neg hd]]
      repeat'
        conv => whnf
        first
          | refine And.intro (a := drawB _ = true) (by kernel_rfl) ?_
          | refine And.intro (a := (_ : Bool) = true) rfl ?_
          | refine And.intro (a := (_ : Bool) = true ∧ (_ : Bool) = true) ⟨rfl, rfl⟩ ?_
          | refine And.intro (a := (_ : Bool) = true ∧ (_ : List _) = []) ⟨rfl, rfl⟩ ?_
          | refine And.intro (a := IR _ _) (And.intro (by omega) (by omega)) ?_
          | refine wrapE (And.intro (by omega) (by omega)) ?_
          | refine And.intro (a := (0 : Int) ≤ _ ∧ _ < _) (And.intro (by omega) (by omega)) ?_
          | refine And.intro (a := (_ : Bool) = true) (by simp only [Nat.beq_refl]; rfl) ?_
          | refine And.intro (a := ((_ : Bool) = true → 1 ≤ _) ∧ _ ≤ 9223372036854775807 ∧ _ ≤ 140737488355328) ⟨fun h => (by first | omega | cases h), by omega, by omega⟩ ?_
          | refine splT ?_
          | refine splF ?_
          | refine splNot ?_
          | (refine splIn (fun hc => ?_) (fun hc => ?_) <;> first | (exfalso; omega) | (exfalso; dsimp only at hc; omega) | skip)
          | (refine splD (fun hc => ?_) (fun hc => ?_) <;> first | (exfalso; omega) | (exfalso; dsimp only at hc; omega) | skip)
          | (refine splE (fun hc => ?_) (fun hc => ?_) <;> first | (exfalso; omega) | (exfalso; dsimp only at hc; omega) | skip)
          | (refine splNE (fun hc => ?_) (fun hc => ?_) <;> first | (exfalso; omega) | (exfalso; dsimp only at hc; omega) | skip)
          | ((with_reducible show CallEv _ _ 22 _ _ _ _ _); refine callE (k := 22) (fun β w' hbw => hC _ hbw) ?_)
          | ((with_reducible show CallEv _ _ 56 _ _ _ _ _); refine callE (k := 56) (fun β w' hbw => within_ok _ _ _ _) ?_)
      all_goals first | (exfalso; omega) | skip
      all_goals exact ⟨fun w' h => h, fun β w' h _ => ⟨(none, 0), rfl, fun _ _ => .inl ⟨rfl, rfl⟩⟩⟩
  · rw [show staR G L day = [] from if_neg fun h => he h.1, show staE G L day = lgE G L from if_neg he]
    have h4 := lgE_cases G L
    generalize lgE G L = e at *
    repeat'
      conv => whnf
      first
        | refine And.intro (a := drawB _ = true) (by kernel_rfl) ?_
        | refine And.intro (a := (_ : Bool) = true) rfl ?_
        | refine And.intro (a := (_ : Bool) = true ∧ (_ : Bool) = true) ⟨rfl, rfl⟩ ?_
        | refine And.intro (a := (_ : Bool) = true ∧ (_ : List _) = []) ⟨rfl, rfl⟩ ?_
        | refine And.intro (a := IR _ _) (And.intro (by omega) (by omega)) ?_
        | refine wrapE (And.intro (by omega) (by omega)) ?_
        | refine And.intro (a := (0 : Int) ≤ _ ∧ _ < _) (And.intro (by omega) (by omega)) ?_
        | refine And.intro (a := (_ : Bool) = true) (by simp only [Nat.beq_refl]; rfl) ?_
        | refine And.intro (a := ((_ : Bool) = true → 1 ≤ _) ∧ _ ≤ 9223372036854775807 ∧ _ ≤ 140737488355328) ⟨fun h => (by first | omega | cases h), by omega, by omega⟩ ?_
        | refine splT ?_
        | refine splF ?_
        | refine splNot ?_
        | (refine splIn (fun hc => ?_) (fun hc => ?_) <;> first | (exfalso; omega) | (exfalso; dsimp only at hc; omega) | skip)
        | (refine splD (fun hc => ?_) (fun hc => ?_) <;> first | (exfalso; omega) | (exfalso; dsimp only at hc; omega) | skip)
        | (refine splE (fun hc => ?_) (fun hc => ?_) <;> first | (exfalso; omega) | (exfalso; dsimp only at hc; omega) | skip)
        | (refine splNE (fun hc => ?_) (fun hc => ?_) <;> first | (exfalso; omega) | (exfalso; dsimp only at hc; omega) | skip)
        | ((with_reducible show CallEv _ _ 22 _ _ _ _ _); refine callE (k := 22) (fun β w' hbw => hC _ hbw) ?_)
    all_goals first | (exfalso; omega) | skip
    all_goals exact ⟨fun w' h => h, fun β w' h _ => ⟨(none, 0), rfl, fun _ _ => .inl ⟨rfl, rfl⟩⟩⟩

def untR (G : List (Int × Int)) (L : List En) (num day hours : Int) : Int := match G[num.toNat]? with
  | some g => if lgE G L = 0 ∧ ((0 ≤ num ∧ num ≤ G.length - 1) ∧ (0 ≤ day ∧ day ≤ 10000) ∧ (0 ≤ hours ∧ hours ≤ 24)) then day + untN g (stL num day L) day hours else 0
  | none => 0
def untE (G : List (Int × Int)) (L : List En) (num day hours : Int) : Int := if lgE G L = 0 then (if (0 ≤ num ∧ num ≤ G.length - 1) ∧ (0 ≤ day ∧ day ≤ 10000) ∧ (0 ≤ hours ∧ hours ≤ 24) then 0 else 2) else lgE G L

set_option maxHeartbeats 1000000 in
set_option maxRecDepth 100000 in
theorem Until_ok (G : List (Int × Int)) (L : List En) (o p : Option Addr) (c d : Nat) (num day hours : Int) (w : World) (hG : Rd 2 gF (.slice o G.length c) G w) (hL : Rd 4 En.cs (.slice p L.length d) L w) (hg : G.length ≤ 1000000) (hl : L.length ≤ 1000000) :
    Calls Try.prog 20 #[.slice o G.length c, .slice p L.length d, iv num, iv day, iv hours] w fun e w' => e = .returned (.tuple #[iv (untR G L num day hours), iv (untE G L num day hours)]) ∧ Below w.heap.size w w' := by
  refine calls_val env mixed Try.func20 has20 Try.ntmps20 [.slice o G.length c, .slice p L.length d, iv num, iv day, iv hours] (by simp) ?_
  have hC := fun w' (hb : Below w.heap.size w w') => CheckLog_ok G L o p c d w' (hG.below hb) (hL.below hb) hg hl
  by_cases he : lgE G L = 0
  · rw [he] at hC
    obtain ⟨b1, b2, b3, _, hE⟩ := lgE_ok he
    by_cases hd : (0 ≤ num ∧ num ≤ G.length - 1) ∧ (0 ≤ day ∧ day ≤ 10000) ∧ (0 ≤ hours ∧ hours ≤ 24)
    · obtain ⟨n, rfl⟩ := Int.eq_ofNat_of_zero_le hd.1.1
      have hnl : n < G.length := by omega
      obtain ⟨g, hx⟩ : ∃ b, G[n]? = some b := ⟨_, List.getElem?_eq_getElem hnl⟩
      rw [show untR G L n day hours = day + untN g (stL n day L) day hours from by rw [untR, Int.toNat_natCast, hx]; exact if_pos ⟨he, hd⟩, show untE G L n day hours = 0 from by rw [untE, if_pos he, if_pos hd]]
      obtain ⟨⟨_, _⟩, ⟨d1, d2⟩, ⟨d3, d4⟩⟩ := hd
      obtain ⟨_, ad, rfl, _⟩ := hG.ptr (by omega)
      have e0 := fun (w' : World) hw' => rd_ati (hG.below (w' := w') hw') hx
      have hgo : gOk g = true := List.all_eq_true.1 b3 g (List.mem_of_getElem? hx)
      rw [gOk, Bool.and_eq_true, inB_iff, inB_iff] at hgo
      have hbd := stL_bdl (num := n) (day := day) hE
      have h57 := fun w' (hb : Below w.heap.size w w') => record_ok g L p d n day w' (hL.below hb) hE
      have hu := untN_st (g := g) (s := stL n day L) (day := day) (hours := hours) hgo.1.2 hbd.2.2 d1
      have hle := untN_le (g := g) (s := stL n day L) (day := day) (hours := hours)
      generalize hs : stL n day L = s at *
      repeat'
        conv => whnf
        first
          | refine And.intro (a := drawB _ = true) (by kernel_rfl) ?_
          | refine And.intro (a := (_ : Bool) = true) rfl ?_
          | refine And.intro (a := (_ : Bool) = true ∧ (_ : Bool) = true) ⟨rfl, rfl⟩ ?_
          | refine And.intro (a := (_ : Bool) = true ∧ (_ : List _) = []) ⟨rfl, rfl⟩ ?_
          | refine And.intro (a := IR _ _) (And.intro (by omega) (by omega)) ?_
          | refine wrapE (And.intro (by omega) (by omega)) ?_
          | refine And.intro (a := (0 : Int) ≤ _ ∧ _ < _) (And.intro (by omega) (by omega)) ?_
          | refine And.intro (a := (_ : Bool) = true) (by simp only [Nat.beq_refl]; rfl) ?_
          | refine And.intro (a := ((_ : Bool) = true → 1 ≤ _) ∧ _ ≤ 9223372036854775807 ∧ _ ≤ 140737488355328) ⟨fun h => (by first | omega | cases h), by omega, by omega⟩ ?_
          | refine splT ?_
          | refine splF ?_
          | refine splNot ?_
          | (refine splIn (fun hc => ?_) (fun hc => ?_) <;> first | (exfalso; omega) | (exfalso; dsimp only at hc; omega) | skip)
          | (refine splD (fun hc => ?_) (fun hc => ?_) <;> first | (exfalso; omega) | (exfalso; dsimp only at hc; omega) | skip)
          | (refine splE (fun hc => ?_) (fun hc => ?_) <;> first | (exfalso; omega) | (exfalso; dsimp only at hc; omega) | skip)
          | (refine splNE (fun hc => ?_) (fun hc => ?_) <;> first | (exfalso; omega) | (exfalso; dsimp only at hc; omega) | skip)
          | ((with_reducible show CallEv _ _ 22 _ _ _ _ _); refine callE (k := 22) (fun β w' hbw => hC _ hbw) ?_)
          | ((with_reducible show CallEv _ _ 56 _ _ _ _ _); refine callE (k := 56) (fun β w' hbw => within_ok _ _ _ _) ?_)
          | refine Exists.intro (α := List Value) (gF g) ⟨⟨rfl, fun w' hw' => e0 w' hw'⟩, ?_⟩
          | ((with_reducible show CallEv _ _ 57 _ _ _ _ _); refine callE (k := 57) (fun β w' hbw => h57 _ hbw) ?_)
      all_goals first | (exfalso; omega) | skip
      refine loopE (fun k : Nat => [(3, .v (iv day)), (4, .v (iv hours)), (13, .ptr 0 0), (14, .v (iv (day + k)))]) (fun _ => [(0, .cells [.v (iv g.1), .v (iv g.2), .v (.bool s.1), .v (iv s.2.1), .v (iv s.2.2)] 121)])
        (fun k => k ≤ untN g s day hours) (fun k => untN g s day hours - k) 0 (Nat.zero_le _) ⟨rfl, rfl, rfl, by rw [Int.natCast_zero, Int.add_zero]; rfl, trivial⟩ ⟨rfl, trivial⟩ (fun _ => ⟨rfl, rfl⟩) ?_
      intro k hk
      have hik : day + ((k + 1 : Nat) : Int) = day + (k : Int) + 1 := by omega
      have hm0 : 0 ≤ ((k : Int) + 1) * hours := Int.mul_nonneg (by omega) d3
      have hm1 : ((k : Int) + 1) * hours ≤ 12002 * 24 := Int.mul_le_mul (by omega) d4 d3 (by omega)
      have hmul : (day + (k : Int) - day + 1) * hours = ((k : Int) + 1) * hours := by congr 1; omega
      have h58 := fun w' => stale_ok g s (day + k) (((k : Int) + 1) * hours) w' hbd (by omega) (by omega)
      rw [← hmul] at h58 hm0 hm1
      by_cases hlt : k < untN g s day hours
      · have hno := untN_no hlt
        rw [← hmul] at hno
        rw [hno] at h58
        repeat'
          conv => whnf
          first
            | refine And.intro (a := drawB _ = true) (by kernel_rfl) ?_
            | refine And.intro (a := (_ : Bool) = true) rfl ?_
            | refine And.intro (a := (_ : Bool) = true ∧ (_ : Bool) = true) ⟨rfl, rfl⟩ ?_
            | refine And.intro (a := (_ : Bool) = true ∧ (_ : List _) = []) ⟨rfl, rfl⟩ ?_
            | refine And.intro (a := IR _ _) (And.intro (by omega) (by omega)) ?_
            | refine wrapE (And.intro (by omega) (by omega)) ?_
            | refine And.intro (a := (0 : Int) ≤ _ ∧ _ < _) (And.intro (by omega) (by omega)) ?_
            | refine And.intro (a := (_ : Bool) = true) (by simp only [Nat.beq_refl]; rfl) ?_
            | refine And.intro (a := ((_ : Bool) = true → 1 ≤ _) ∧ _ ≤ 9223372036854775807 ∧ _ ≤ 140737488355328) ⟨fun h => (by first | omega | cases h), by omega, by omega⟩ ?_
            | refine splT ?_
            | refine splF ?_
            | refine splNot ?_
            | (refine splIn (fun hc => ?_) (fun hc => ?_) <;> first | (exfalso; omega) | (exfalso; dsimp only at hc; omega) | skip)
            | (refine splD (fun hc => ?_) (fun hc => ?_) <;> first | (exfalso; omega) | (exfalso; dsimp only at hc; omega) | skip)
            | (refine splE (fun hc => ?_) (fun hc => ?_) <;> first | (exfalso; omega) | (exfalso; dsimp only at hc; omega) | skip)
            | (refine splNE (fun hc => ?_) (fun hc => ?_) <;> first | (exfalso; omega) | (exfalso; dsimp only at hc; omega) | skip)
            | ((with_reducible show CallEv _ _ 58 _ _ _ _ _); refine callE (k := 58) (fun β w' hbw => h58 _) ?_)
        exact ⟨k + 1, by omega, by omega, Ent.weak rfl ⟨rfl, rfl, rfl, by rw [hik]; rfl, trivial⟩ ⟨rfl, trivial⟩ fun _ h => h⟩
      · obtain rfl : k = untN g s day hours := by omega
        rw [← hmul] at hu
        rw [hu] at h58
        repeat'
          conv => whnf
          first
            | refine And.intro (a := drawB _ = true) (by kernel_rfl) ?_
            | refine And.intro (a := (_ : Bool) = true) rfl ?_
            | refine And.intro (a := (_ : Bool) = true ∧ (_ : Bool) = true) ⟨rfl, rfl⟩ ?_
            | refine And.intro (a := (_ : Bool) = true ∧ (_ : List _) = []) ⟨rfl, rfl⟩ ?_
            | refine And.intro (a := IR _ _) (And.intro (by omega) (by omega)) ?_
            | refine wrapE (And.intro (by omega) (by omega)) ?_
            | refine And.intro (a := (0 : Int) ≤ _ ∧ _ < _) (And.intro (by omega) (by omega)) ?_
            | refine And.intro (a := (_ : Bool) = true) (by simp only [Nat.beq_refl]; rfl) ?_
            | refine And.intro (a := ((_ : Bool) = true → 1 ≤ _) ∧ _ ≤ 9223372036854775807 ∧ _ ≤ 140737488355328) ⟨fun h => (by first | omega | cases h), by omega, by omega⟩ ?_
            | refine splT ?_
            | refine splF ?_
            | refine splNot ?_
            | (refine splIn (fun hc => ?_) (fun hc => ?_) <;> first | (exfalso; omega) | (exfalso; dsimp only at hc; omega) | skip)
            | (refine splD (fun hc => ?_) (fun hc => ?_) <;> first | (exfalso; omega) | (exfalso; dsimp only at hc; omega) | skip)
            | (refine splE (fun hc => ?_) (fun hc => ?_) <;> first | (exfalso; omega) | (exfalso; dsimp only at hc; omega) | skip)
            | (refine splNE (fun hc => ?_) (fun hc => ?_) <;> first | (exfalso; omega) | (exfalso; dsimp only at hc; omega) | skip)
            | ((with_reducible show CallEv _ _ 58 _ _ _ _ _); refine callE (k := 58) (fun β w' hbw => h58 _) ?_)
        exact ⟨fun β => rfl, fun w' h => h⟩
    · rw [show untR G L num day hours = 0 from by unfold untR; split <;> first | rfl | exact if_neg fun h => hd h.2, show untE G L num day hours = 2 from by rw [untE, if_pos he, if_neg hd]]
      repeat'
        conv => whnf
        first
          | refine And.intro (a := drawB _ = true) (by kernel_rfl) ?_
          | refine And.intro (a := (_ : Bool) = true) rfl ?_
          | refine And.intro (a := (_ : Bool) = true ∧ (_ : Bool) = true) ⟨rfl, rfl⟩ ?_
          | refine And.intro (a := (_ : Bool) = true ∧ (_ : List _) = []) ⟨rfl, rfl⟩ ?_
          | refine And.intro (a := IR _ _) (And.intro (by omega) (by omega)) ?_
          | refine wrapE (And.intro (by omega) (by omega)) ?_
          | refine And.intro (a := (0 : Int) ≤ _ ∧ _ < _) (And.intro (by omega) (by omega)) ?_
          | refine And.intro (a := (_ : Bool) = true) (by simp only [Nat.beq_refl]; rfl) ?_
          | refine And.intro (a := ((_ : Bool) = true → 1 ≤ _) ∧ _ ≤ 9223372036854775807 ∧ _ ≤ 140737488355328) ⟨fun h => (by first | omega | cases h), by omega, by omega⟩ ?_
          | refine splT ?_
          | refine splF ?_
          | refine splNot ?_
          | (refine splIn (fun hc => ?_) (fun hc => ?_) <;> first | (exfalso; omega) | (exfalso; dsimp only at hc; omega) | skip)
          | (refine splD (fun hc => ?_) (fun hc => ?_) <;> first | (exfalso; omega) | (exfalso; dsimp only at hc; omega) | skip)
          | (refine splE (fun hc => ?_) (fun hc => ?_) <;> first | (exfalso; omega) | (exfalso; dsimp only at hc; omega) | skip)
          | (refine splNE (fun hc => ?_) (fun hc => ?_) <;> first | (exfalso; omega) | (exfalso; dsimp only at hc; omega) | skip)
          | ((with_reducible show CallEv _ _ 22 _ _ _ _ _); refine callE (k := 22) (fun β w' hbw => hC _ hbw) ?_)
          | ((with_reducible show CallEv _ _ 56 _ _ _ _ _); refine callE (k := 56) (fun β w' hbw => within_ok _ _ _ _) ?_)
      all_goals first | (exfalso; omega) | skip
      all_goals first | exact ⟨fun β => rfl, fun w' h => h⟩ | (exfalso; exact hd ⟨by assumption, by assumption, by assumption⟩) | skip
  · rw [show untR G L num day hours = 0 from by unfold untR; split <;> first | rfl | exact if_neg fun h => he h.1, show untE G L num day hours = lgE G L from if_neg he]
    have h4 := lgE_cases G L
    generalize lgE G L = e at *
    repeat'
      conv => whnf
      first
        | refine And.intro (a := drawB _ = true) (by kernel_rfl) ?_
        | refine And.intro (a := (_ : Bool) = true) rfl ?_
        | refine And.intro (a := (_ : Bool) = true ∧ (_ : Bool) = true) ⟨rfl, rfl⟩ ?_
        | refine And.intro (a := (_ : Bool) = true ∧ (_ : List _) = []) ⟨rfl, rfl⟩ ?_
        | refine And.intro (a := IR _ _) (And.intro (by omega) (by omega)) ?_
        | refine wrapE (And.intro (by omega) (by omega)) ?_
        | refine And.intro (a := (0 : Int) ≤ _ ∧ _ < _) (And.intro (by omega) (by omega)) ?_
        | refine And.intro (a := (_ : Bool) = true) (by simp only [Nat.beq_refl]; rfl) ?_
        | refine And.intro (a := ((_ : Bool) = true → 1 ≤ _) ∧ _ ≤ 9223372036854775807 ∧ _ ≤ 140737488355328) ⟨fun h => (by first | omega | cases h), by omega, by omega⟩ ?_
        | refine splT ?_
        | refine splF ?_
        | refine splNot ?_
        | (refine splIn (fun hc => ?_) (fun hc => ?_) <;> first | (exfalso; omega) | (exfalso; dsimp only at hc; omega) | skip)
        | (refine splD (fun hc => ?_) (fun hc => ?_) <;> first | (exfalso; omega) | (exfalso; dsimp only at hc; omega) | skip)
        | (refine splE (fun hc => ?_) (fun hc => ?_) <;> first | (exfalso; omega) | (exfalso; dsimp only at hc; omega) | skip)
        | (refine splNE (fun hc => ?_) (fun hc => ?_) <;> first | (exfalso; omega) | (exfalso; dsimp only at hc; omega) | skip)
        | ((with_reducible show CallEv _ _ 22 _ _ _ _ _); refine callE (k := 22) (fun β w' hbw => hC _ hbw) ?_)
    all_goals first | (exfalso; omega) | skip
    all_goals exact ⟨fun β => rfl, fun w' h => h⟩
end Go.Proofs.Ytaciigegbgnadaa
