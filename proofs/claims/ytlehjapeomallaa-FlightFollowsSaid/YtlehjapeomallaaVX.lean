/- The law of what follows in a chain answers true: the loop over its windows. -/
import Derived.Test.YtlehjapeomallaaVW
namespace Go.Proofs.Ytlehjapeomallaa.V
open Go Tx Go.RowKit
set_option linter.unusedSimpArgs false
set_option linter.unusedVariables false

theorem Cat_w (g : Fg) (bs : List Bx) (yo : Option Addr) (yc : Nat) (r : Int) (w : World) (hrd : Rd 4 Bx.cs (.slice yo g.n yc) bs w) (hl : bs.length ≤ 1000000) (hg : g.ok bs = true) (hr : 0 ≤ r ∧ r ≤ 6000) :
    Calls Try.prog 24 #[.agg #[iv g.f.a.x.lo, iv g.f.a.x.hi, iv g.f.a.z.lo, iv g.f.a.z.hi, iv g.f.s.x.lo, iv g.f.s.x.hi, iv g.f.s.z.lo, iv g.f.s.z.hi, iv g.f.m, .slice yo g.n yc, iv g.re, iv g.so, iv g.be, iv g.le, iv g.mo], iv r] w fun e w' => ∃ u : YS (catL g bs r g.k), e = .returned (.tuple #[sV (catL g bs r g.k).length u.1, iv 0]) ∧ Below w.heap.size w w' ∧ St w.heap.size (Rd 1 iF (sV (catL g bs r g.k).length u.1) (catL g bs r g.k)) w' :=
  fam ((Cat_yes g bs (yo, yc) r w hrd hl hg hr).mono fun _ _ ⟨z, h1, h2, h3⟩ => ⟨⟨z, rd_ys h3.now⟩, h1, h2, h3⟩)
theorem rd_ato {α : Type} {sz : Nat} {f : α → List Value} {ad : Addr} {n c : Nat} {L : List α} {w : World} (h : Rd sz f (.slice (some ad) n c) L w) {k : Nat} {b : α} (hk : L[k]? = some b) (z : Int) (hz : z = k) :
    ∀ j v, (f b)[j]? = some v → w.cell? ((ad.add (z.toNat * sz)).add j) = some v := by subst hz; rw [Int.toNat_natCast]; exact rd_at h hk
theorem gd_iff' {g : Fg} {bs : List Bx} {r : Int} : gd g bs r = true ↔ catL g bs r g.k ≠ [] := by simp [gd]
theorem rd_fldz {α : Type} {sz : Nat} {f : α → List Value} {ad : Addr} {n c : Nat} {L : List α} {w : World} (h : Rd sz f (.slice (some ad) n c) L w) {k : Nat} {b : α} (hk : L[k]? = some b) (z : Int) (hz : z = k) (o : Nat) (v : Value) (hv : (f b)[o]? = some v) :
    ∀ j u, [v][j]? = some u → w.cell? (((ad.add (z.toNat * sz)).add o).add j) = some u := by subst hz; exact rd_fld h hk o v hv
theorem own_fld {W : List (Int × Int)} {k : Nat} {x : Int × Int} (hx : W[k]? = some x) (o : Nat) (v : Value) (hv : (wF x)[o]? = some v) : ∀ j u, [v][j]? = some u → (W.flatMap wF)[(k : Int).toNat * 2 + o + j]? = some u := fun j u hu => by
  match j, hu with
  | 0, hu =>
    cases hu
    rw [Int.toNat_natCast, Nat.add_zero]
    exact flat_get (sz := 2) (f := wF) (fun _ => rfl) W k o x _ hx hv

set_option maxHeartbeats 4000000 in
set_option maxRecDepth 100000 in
theorem follows_loop (act : List (Fg × List Bx)) (ad adL : Addr) (c Lc : Nat) (need rst : Int) (L : List (Int × Int)) (w : World) (hrd : Rd 15 csP (.slice (some ad) act.length c) act w) (hl : 1 ≤ act.length ∧ act.length ≤ 12) (hn : 1 ≤ need ∧ need ≤ 100) (hr : 0 ≤ rst ∧ rst ≤ 1000)
    (hbx : ∀ p ∈ act, Rd 4 Bx.cs (.slice p.1.o p.1.n p.1.c) p.2 w ∧ p.1.ok p.2 = true ∧ p.2.length ≤ 1000000) (hch : chn need rst act 0 0 [] = (L, none)) :
    VC Try.prog (rest 6 body16) ⟨287, [(0, .v (.slice (some ad) act.length c)), (1, .v (iv need)), (2, .v (iv rst)), (8, .v (.slice (some adL) L.length Lc))], [], 0, (fun w' => Below w.heap.size w w' ∧ Rd 2 wF (.slice (some adL) L.length Lc) L w'), z0⟩ (endΦ env Try.f16 fun s σ => (∀ β, s.c β = .bool true) ∧ ∀ w', σ.h w' → Below w.heap.size w w') := by
  have hLl : L.length = act.length := by have := (chn_pre hch).2; simpa using this
  refine VC.of env mixed ?_
  repeat'
    conv => whnf
    first
      | refine And.intro (a := drawB _ = true) (by kernel_rfl) ?_
      | refine And.intro (a := (_ : Bool) = true) rfl ?_
      | refine And.intro (a := (_ : Bool) = true ∧ (_ : Bool) = true) ⟨rfl, rfl⟩ ?_
      | refine And.intro (a := (_ : Bool) = true ∧ (_ : List _) = []) ⟨rfl, rfl⟩ ?_
      | refine And.intro (a := IR _ _) (And.intro (by omega) (by omega)) ?_
      | refine wrapE (And.intro (by omega) (by omega)) ?_
      | refine And.intro (a := (0 : Int) ≤ _ ∧ _ < _) (And.intro (by omega) (by omega)) ?_
      | refine And.intro (a := (_ : Bool) = true) (by simp only [Nat.beq_refl]; rfl) ?_
      | refine And.intro (a := ((_ : Bool) = true → 1 ≤ _) ∧ _ ≤ 9223372036854775807 ∧ _ ≤ 140737488355328) ⟨fun h => (by first | omega | cases h), by omega, by omega⟩ ?_
      | refine splT ?_
      | refine splF ?_
      | refine splNot ?_
      | (refine splIn (fun hc => ?_) (fun hc => ?_) <;> first | (exfalso; omega) | (exfalso; dsimp only at hc; omega) | skip)
      | (refine splD (fun hc => ?_) (fun hc => ?_) <;> first | (exfalso; omega) | (exfalso; dsimp only at hc; omega) | skip)
      | (refine splE (fun hc => ?_) (fun hc => ?_) <;> first | (exfalso; omega) | (exfalso; dsimp only at hc; omega) | skip)
      | (refine splNE (fun hc => ?_) (fun hc => ?_) <;> first | (exfalso; omega) | (exfalso; dsimp only at hc; omega) | skip)
  refine loopE (fun x : Nat × Int => [(0, .v (.slice (some ad) act.length c)), (1, .v (iv need)), (2, .v (iv rst)), (8, .v (.slice (some adL) L.length Lc)), (11, .v (iv x.2)), (12, .v (iv x.1))]) (fun _ => []) (fun x => x.1 ≤ L.length ∧ (0 ≤ x.2 ∧ x.2 ≤ 7400) ∧ chn need rst (act.drop x.1) x.1 x.2 (L.take x.1) = (L, none)) (fun x => L.length - x.1) (0, 0) ⟨Nat.zero_le _, ⟨Int.le_refl _, by show (0 : Int) ≤ _; omega⟩, hch⟩ ⟨rfl, rfl, rfl, rfl, rfl, rfl, trivial⟩ trivial (fun _ => ⟨rfl, rfl⟩) ?_
  rintro ⟨i, fr⟩ ⟨hi, hfr, hci⟩
  dsimp only at hi hfr hci
  have hii : ((i + 1 : Nat) : Int) = (i : Int) + 1 := by omega
  rcases Nat.lt_or_ge i L.length with hil | hil
  case inr =>
    repeat'
      conv => whnf
      first
        | refine And.intro (a := drawB _ = true) (by kernel_rfl) ?_
        | refine And.intro (a := (_ : Bool) = true) rfl ?_
        | refine And.intro (a := (_ : Bool) = true ∧ (_ : Bool) = true) ⟨rfl, rfl⟩ ?_
        | refine And.intro (a := (_ : Bool) = true ∧ (_ : List _) = []) ⟨rfl, rfl⟩ ?_
        | refine And.intro (a := IR _ _) (And.intro (by omega) (by omega)) ?_
        | refine wrapE (And.intro (by omega) (by omega)) ?_
        | refine And.intro (a := (0 : Int) ≤ _ ∧ _ < _) (And.intro (by omega) (by omega)) ?_
        | refine And.intro (a := (_ : Bool) = true) (by simp only [Nat.beq_refl]; rfl) ?_
        | refine And.intro (a := ((_ : Bool) = true → 1 ≤ _) ∧ _ ≤ 9223372036854775807 ∧ _ ≤ 140737488355328) ⟨fun h => (by first | omega | cases h), by omega, by omega⟩ ?_
        | refine splT ?_
        | refine splF ?_
        | refine splNot ?_
        | (refine splIn (fun hc => ?_) (fun hc => ?_) <;> first | (exfalso; omega) | (exfalso; dsimp only at hc; omega) | skip)
        | (refine splD (fun hc => ?_) (fun hc => ?_) <;> first | (exfalso; omega) | (exfalso; dsimp only at hc; omega) | skip)
        | (refine splE (fun hc => ?_) (fun hc => ?_) <;> first | (exfalso; omega) | (exfalso; dsimp only at hc; omega) | skip)
        | (refine splNE (fun hc => ?_) (fun hc => ?_) <;> first | (exfalso; omega) | (exfalso; dsimp only at hc; omega) | skip)
        | ((with_reducible show CallEv _ _ 20 _ _ _ _ _); refine callE (k := 20) (fun β w' hbw => wakes_ok _) ?_)
    all_goals first | exact ⟨fun β => rfl, fun w' h => h.1⟩ | (exfalso; omega) | skip
  obtain ⟨⟨g, bs⟩, hb⟩ : ∃ b, act[i]? = some b := ⟨_, List.getElem?_eq_getElem (by omega)⟩
  have e0 := fun (w' : World) hw' => rd_ati (hrd.below (w' := w') hw') hb
  have e1 := fun (w' : World) hw' => rd_fld (hrd.below (w' := w') hw') hb
  obtain ⟨hr1, hg, hbl⟩ := hbx _ (List.mem_of_getElem? hb)
  have hg' := Fg.ok_iff.1 hg
  dsimp only at hr1 hg hbl hg'
  have hbn : g.n = bs.length := hr1.len
  have hne : bs ≠ [] := by rintro rfl; simp at hbn; omega
  rw [chn_drop hb] at hci
  cases hf : frs (g, bs) need fr with
  | none => rw [hf] at hci; cases hci
  | some q =>
  rw [hf] at hci
  dsimp only at hci
  have hq := frs_bd hf
  obtain ⟨M, hM, hMs, hfq, hgr⟩ := wins_frs (p := (g, bs)) hn.1 hfr.1 hf
  dsimp only at hM hgr
  have hpre := (chn_pre hci).1
  have htl : (L.take i).length = i := by rw [List.length_take]; omega
  have hLi : L[i]? = some (q - need + 1, q) := by
    obtain ⟨t, ht⟩ := hpre
    rw [← ht, List.getElem?_append_left (by simp; omega), List.getElem?_append_right (by omega), htl]
    simp
  have htk : L.take (i + 1) = L.take i ++ [(q - need + 1, q)] := by rw [List.take_add_one, hLi]; rfl
  rw [← htk] at hci
  -- the next window
  have hnext : i + 1 < L.length → ∃ x, L[i + 1]? = some x ∧ q + g.mo + rst ≤ x.1 ∧ x.1 ≤ 6000 := fun hlt => by
    obtain ⟨p2, hb2⟩ : ∃ b, act[i + 1]? = some b := ⟨_, List.getElem?_eq_getElem (by omega)⟩
    rw [chn_drop hb2] at hci
    cases hf2 : frs p2 need (q + g.mo + rst) with
    | none => rw [hf2] at hci; cases hci
    | some q2 =>
      rw [hf2] at hci
      dsimp only at hci
      obtain ⟨_, _, _, h3, _⟩ := wins_frs (p := p2) hn.1 (by omega) hf2
      have hq2 := frs_bd hf2
      have htl2 : (L.take (i + 1)).length = i + 1 := by rw [List.length_take]; omega
      obtain ⟨t, ht⟩ := (chn_pre hci).1
      refine ⟨(q2 - need + 1, q2), ?_, h3, by dsimp only; omega⟩
      rw [← ht, List.getElem?_append_left (by simp; omega), List.getElem?_append_right (by omega), htl2]
      simp
  have hwin := wins_in (p := gd g bs) hfr.1 (n := (q - fr + 1).toNat)
  have hwl := wins_len (p := gd g bs) hfr.1 (q - fr + 1).toNat
  rw [hM] at hwin hwl
  have hNl : M.length + 1 = (M ++ [(q - need + 1, q)]).length := by simp
  have hWo : ∀ yo yc w', Rd 4 Bx.cs (.slice yo g.n yc) bs w' → Calls Try.prog 54 #[.agg #[iv g.f.a.x.lo, iv g.f.a.x.hi, iv g.f.a.z.lo, iv g.f.a.z.hi, iv g.f.s.x.lo, iv g.f.s.x.hi, iv g.f.s.z.lo, iv g.f.s.z.hi, iv g.f.m, .slice yo g.n yc, iv g.re, iv g.so, iv g.be, iv g.le, iv g.mo], iv fr, iv q] w' fun e w'' => ∃ b c, e = .returned (.tuple #[.slice (some ⟨b, 0, none⟩) (M.length + 1) c, iv 0]) ∧ w'.heap.size ≤ b ∧ Below w'.heap.size w' w'' ∧ w''.ownsRow 0 97 2 (.slice (some ⟨b, 0, none⟩) (M.length + 1) c) (M.length + 1) ((M ++ [(q - need + 1, q)]).flatMap wF) :=
    fun yo yc w' h => Windows_own (g.at (yo, yc)) bs fr q hg hfr.1 hq.1 hq.2 w' h hbl _ _ (by rw [gd_at, hM]; exact hNl) (by rw [gd_at, hM]) (Nat.succ_pos _)
  generalize hW : M ++ [(q - need + 1, q)] = W at *
  have hC := fun yo yc (r : Int) w' (hr : 0 ≤ r ∧ r ≤ 6000) h => Cat_w g bs yo yc r w' h hbl hg hr
  repeat'
    conv => whnf
    first
      | refine And.intro (a := drawB _ = true) (by kernel_rfl) ?_
      | refine And.intro (a := (_ : Bool) = true) rfl ?_
      | refine And.intro (a := (_ : Bool) = true ∧ (_ : Bool) = true) ⟨rfl, rfl⟩ ?_
      | refine And.intro (a := (_ : Bool) = true ∧ (_ : List _) = []) ⟨rfl, rfl⟩ ?_
      | refine And.intro (a := IR _ _) (And.intro (by omega) (by omega)) ?_
      | refine wrapE (And.intro (by omega) (by omega)) ?_
      | refine And.intro (a := (0 : Int) ≤ _ ∧ _ < _) (And.intro (by omega) (by omega)) ?_
      | refine And.intro (a := (_ : Bool) = true) (by simp only [Nat.beq_refl]; rfl) ?_
      | refine And.intro (a := ((_ : Bool) = true → 1 ≤ _) ∧ _ ≤ 9223372036854775807 ∧ _ ≤ 140737488355328) ⟨fun h => (by first | omega | cases h), by omega, by omega⟩ ?_
      | refine splT ?_
      | refine splF ?_
      | refine splNot ?_
      | (refine splIn (fun hc => ?_) (fun hc => ?_) <;> first | (exfalso; omega) | (exfalso; dsimp only at hc; omega) | skip)
      | (refine splD (fun hc => ?_) (fun hc => ?_) <;> first | (exfalso; omega) | (exfalso; dsimp only at hc; omega) | skip)
      | (refine splE (fun hc => ?_) (fun hc => ?_) <;> first | (exfalso; omega) | (exfalso; dsimp only at hc; omega) | skip)
      | (refine splNE (fun hc => ?_) (fun hc => ?_) <;> first | (exfalso; omega) | (exfalso; dsimp only at hc; omega) | skip)
      | refine Exists.intro (α := List Value) [iv (q - need + 1)] ⟨⟨rfl, fun w' hw' => rd_fld hw'.2 hLi 0 _ rfl⟩, ?_⟩
      | refine Exists.intro (α := List Value) [iv q] ⟨⟨rfl, fun w' hw' => rd_fld hw'.2 hLi 1 _ rfl⟩, ?_⟩
      | refine Exists.intro (α := List Value) g.cs ⟨⟨rfl, fun w' hw' => e0 w' hw'.1⟩, ?_⟩
      | ((with_reducible show CallEv _ _ 25 _ _ _ _ _); refine callO 0 [] (.agg (gs1 g (.os 0 1 g.n))) g.n 4 (bs.flatMap Bx.cs) 47 rfl (fun β w' _ hbw => Flight_own g bs w' (hr1.below hbw.1) hbl hne) ?_)
      | ((with_reducible show CallEv _ _ 54 _ _ _ _ _); refine callO 2 [0] (.tup [.os 2 3 (M.length + 1), .v (iv 0)]) (M.length + 1) 2 (W.flatMap wF) 97 rfl (fun β w' hbk hbw => hWo (some ⟨β 0, 0, none⟩) (β 1) w' (Rd.of_owns (sz := 4) (f := Bx.cs) (fun _ => rfl) rfl hbn (hbk 0 (by simp) _ rfl))) ?_)
  all_goals first | (exfalso; omega) | skip
  refine loopN 4 (fun k : Nat => [(0, .v (.slice (some ad) act.length c)), (1, .v (iv need)), (2, .v (iv rst)), (8, .v (.slice (some adL) L.length Lc)), (11, .v (iv fr)), (12, .v (iv i)), (13, .os 2 3 (M.length + 1)), (15, .v (iv k))]) (fun _ => [(2, .own 3 (M.length + 1) 2 (W.flatMap wF) 97)]) (fun k => k ≤ M.length + 1) (fun k => M.length + 1 - k) 0 (Nat.zero_le _) ⟨rfl, rfl, rfl, rfl, rfl, rfl, rfl, rfl, trivial⟩ ⟨rfl, trivial⟩ (fun _ _ => ⟨rfl, rfl⟩) ?_
  intro k hk
  rcases Nat.lt_or_ge k (M.length + 1) with hkl | hkl
  · obtain ⟨x, hx⟩ : ∃ x, W[k]? = some x := ⟨_, List.getElem?_eq_getElem (by omega)⟩
    have hxb := hwin x (List.mem_of_getElem? hx)
    have f0 := own_fld hx 0 _ rfl
    have f1 := own_fld hx 1 _ rfl
    by_cases hlast : k = M.length
    · have hxe : x = (q - need + 1, q) := by
        rw [← hW, hlast, List.getElem?_append_right (Nat.le_refl _), Nat.sub_self] at hx
        simpa using hx.symm
      subst hxe
      repeat'
        conv => whnf
        first
          | refine And.intro (a := drawB _ = true) (by kernel_rfl) ?_
          | refine And.intro (a := (_ : Bool) = true) rfl ?_
          | refine And.intro (a := (_ : Bool) = true ∧ (_ : Bool) = true) ⟨rfl, rfl⟩ ?_
          | refine And.intro (a := (_ : Bool) = true ∧ (_ : List _) = []) ⟨rfl, rfl⟩ ?_
          | refine And.intro (a := IR _ _) (And.intro (by omega) (by omega)) ?_
          | refine wrapE (And.intro (by omega) (by omega)) ?_
          | refine And.intro (a := (0 : Int) ≤ _ ∧ _ < _) (And.intro (by omega) (by omega)) ?_
          | refine And.intro (a := (_ : Bool) = true) (by simp only [Nat.beq_refl]; rfl) ?_
          | refine And.intro (a := ((_ : Bool) = true → 1 ≤ _) ∧ _ ≤ 9223372036854775807 ∧ _ ≤ 140737488355328) ⟨fun h => (by first | omega | cases h), by omega, by omega⟩ ?_
          | refine splT ?_
          | refine splF ?_
          | refine splNot ?_
          | (refine splIn (fun hc => ?_) (fun hc => ?_) <;> first | (exfalso; omega) | (exfalso; dsimp only at hc; omega) | skip)
          | (refine splD (fun hc => ?_) (fun hc => ?_) <;> first | (exfalso; omega) | (exfalso; dsimp only at hc; omega) | skip)
          | (refine splE (fun hc => ?_) (fun hc => ?_) <;> first | (exfalso; omega) | (exfalso; dsimp only at hc; omega) | skip)
          | (refine splNE (fun hc => ?_) (fun hc => ?_) <;> first | (exfalso; omega) | (exfalso; dsimp only at hc; omega) | skip)
          | refine Exists.intro (α := List Value) [iv (q - need + 1)] ⟨⟨rfl, f0⟩, ?_⟩
          | refine Exists.intro (α := List Value) [iv q] ⟨⟨rfl, f1⟩, ?_⟩
          | refine Exists.intro (α := List Value) [iv (q - need + 1)] ⟨⟨rfl, fun w' hw' => rd_fld hw'.2 hLi 0 _ rfl⟩, ?_⟩
          | refine Exists.intro (α := List Value) [iv q] ⟨⟨rfl, fun w' hw' => rd_fld hw'.2 hLi 1 _ rfl⟩, ?_⟩
      all_goals first | (exfalso; omega) | skip
      all_goals exact ⟨k + 1, by omega, by omega, Ent.weak rfl ⟨rfl, rfl, rfl, rfl, rfl, rfl, rfl, rfl, trivial⟩ ⟨rfl, trivial⟩ fun _ h => h⟩
    · have hxs : x.2 - x.1 + 1 < need := by
        rw [← hW, List.getElem?_append_left (by omega)] at hx
        exact hMs x (List.mem_of_getElem? hx)
      obtain ⟨x1, x2⟩ := x
      dsimp only at hxb hxs f0 f1
      repeat'
        conv => whnf
        first
          | refine And.intro (a := drawB _ = true) (by kernel_rfl) ?_
          | refine And.intro (a := (_ : Bool) = true) rfl ?_
          | refine And.intro (a := (_ : Bool) = true ∧ (_ : Bool) = true) ⟨rfl, rfl⟩ ?_
          | refine And.intro (a := (_ : Bool) = true ∧ (_ : List _) = []) ⟨rfl, rfl⟩ ?_
          | refine And.intro (a := IR _ _) (And.intro (by omega) (by omega)) ?_
          | refine wrapE (And.intro (by omega) (by omega)) ?_
          | refine And.intro (a := (0 : Int) ≤ _ ∧ _ < _) (And.intro (by omega) (by omega)) ?_
          | refine And.intro (a := (_ : Bool) = true) (by simp only [Nat.beq_refl]; rfl) ?_
          | refine And.intro (a := ((_ : Bool) = true → 1 ≤ _) ∧ _ ≤ 9223372036854775807 ∧ _ ≤ 140737488355328) ⟨fun h => (by first | omega | cases h), by omega, by omega⟩ ?_
          | refine splT ?_
          | refine splF ?_
          | refine splNot ?_
          | (refine splIn (fun hc => ?_) (fun hc => ?_) <;> first | (exfalso; omega) | (exfalso; dsimp only at hc; omega) | skip)
          | (refine splD (fun hc => ?_) (fun hc => ?_) <;> first | (exfalso; omega) | (exfalso; dsimp only at hc; omega) | skip)
          | (refine splE (fun hc => ?_) (fun hc => ?_) <;> first | (exfalso; omega) | (exfalso; dsimp only at hc; omega) | skip)
          | (refine splNE (fun hc => ?_) (fun hc => ?_) <;> first | (exfalso; omega) | (exfalso; dsimp only at hc; omega) | skip)
          | refine Exists.intro (α := List Value) [iv x1] ⟨⟨rfl, f0⟩, ?_⟩
          | refine Exists.intro (α := List Value) [iv x2] ⟨⟨rfl, f1⟩, ?_⟩
          | refine Exists.intro (α := List Value) [iv (q - need + 1)] ⟨⟨rfl, fun w' hw' => rd_fld hw'.2 hLi 0 _ rfl⟩, ?_⟩
          | refine Exists.intro (α := List Value) [iv q] ⟨⟨rfl, fun w' hw' => rd_fld hw'.2 hLi 1 _ rfl⟩, ?_⟩
      all_goals first | (exfalso; omega) | skip
      all_goals exact ⟨k + 1, by omega, by omega, Ent.weak rfl ⟨rfl, rfl, rfl, rfl, rfl, rfl, rfl, rfl, trivial⟩ ⟨rfl, trivial⟩ fun _ h => h⟩
  · skip
    repeat'
      conv => whnf
      first
        | refine And.intro (a := drawB _ = true) (by kernel_rfl) ?_
        | refine And.intro (a := (_ : Bool) = true) rfl ?_
        | refine And.intro (a := (_ : Bool) = true ∧ (_ : Bool) = true) ⟨rfl, rfl⟩ ?_
        | refine And.intro (a := (_ : Bool) = true ∧ (_ : List _) = []) ⟨rfl, rfl⟩ ?_
        | refine And.intro (a := IR _ _) (And.intro (by omega) (by omega)) ?_
        | refine wrapE (And.intro (by omega) (by omega)) ?_
        | refine And.intro (a := (0 : Int) ≤ _ ∧ _ < _) (And.intro (by omega) (by omega)) ?_
        | refine And.intro (a := (_ : Bool) = true) (by simp only [Nat.beq_refl]; rfl) ?_
        | refine And.intro (a := ((_ : Bool) = true → 1 ≤ _) ∧ _ ≤ 9223372036854775807 ∧ _ ≤ 140737488355328) ⟨fun h => (by first | omega | cases h), by omega, by omega⟩ ?_
        | refine splT ?_
        | refine splF ?_
        | refine splNot ?_
        | (refine splIn (fun hc => ?_) (fun hc => ?_) <;> first | (exfalso; omega) | (exfalso; dsimp only at hc; omega) | skip)
        | (refine splD (fun hc => ?_) (fun hc => ?_) <;> first | (exfalso; omega) | (exfalso; dsimp only at hc; omega) | skip)
        | (refine splE (fun hc => ?_) (fun hc => ?_) <;> first | (exfalso; omega) | (exfalso; dsimp only at hc; omega) | skip)
        | (refine splNE (fun hc => ?_) (fun hc => ?_) <;> first | (exfalso; omega) | (exfalso; dsimp only at hc; omega) | skip)
        | refine Exists.intro (α := List Value) [iv (q - need + 1)] ⟨⟨rfl, fun w' hw' => rd_fld hw'.2 hLi 0 _ rfl⟩, ?_⟩
        | refine Exists.intro (α := List Value) [iv q] ⟨⟨rfl, fun w' hw' => rd_fld hw'.2 hLi 1 _ rfl⟩, ?_⟩
    all_goals first | (exfalso; omega) | skip
    clear hWo
    refine loopE (fun t : Nat => [(0, .v (.slice (some ad) act.length c)), (1, .v (iv need)), (2, .v (iv rst)), (8, .v (.slice (some adL) L.length Lc)), (11, .v (iv fr)), (12, .v (iv i)), (17, .v (iv (q - need + 1 + t)))]) (fun _ => []) (fun t => q - need + 1 + t ≤ q + 1) (fun t => (need + 1).toNat - t) 0 (by show q - need + 1 + ((0 : Nat) : Int) ≤ _; omega) ⟨rfl, rfl, rfl, rfl, rfl, rfl, by show _ = some (SV.v (iv (q - need + 1 + ((0 : Nat) : Int)))); rw [Int.natCast_zero, Int.add_zero]; rfl, trivial⟩ trivial (fun _ => ⟨rfl, rfl⟩) ?_
    intro t ht
    have htt : q - need + 1 + ((t + 1 : Nat) : Int) = q - need + 1 + (t : Int) + 1 := by omega
    by_cases hle : q - need + 1 + (t : Int) ≤ q
    · have hCr := fun yo yc w' h => hC yo yc (q - need + 1 + t) w' (by omega) h
      have hne2 := gd_iff'.1 (hgr (q - need + 1 + t) (by omega) hle)
      have hmem := fun y (hy : y ∈ catL g bs (q - need + 1 + t) g.k) => catL_mem hy
      have hCl : (catL g bs (q - need + 1 + t) g.k).length ≤ 301 := Nat.le_trans (catL_len g bs _ g.k) (by unfold Fg.k; omega)
      generalize catL g bs (q - need + 1 + t) g.k = C at hCr hne2 hmem hCl
      have hpos : 0 < C.length := List.length_pos_iff.2 hne2
      obtain ⟨cl, hcl⟩ : ∃ n, C[C.length - 1]? = some n := ⟨_, List.getElem?_eq_getElem (by omega)⟩
      have hclb : 0 ≤ cl ∧ cl ≤ q + g.mo := by
        obtain ⟨m, m1, m2, _⟩ := hmem cl (List.mem_of_getElem? hcl)
        have hkk : (g.k : Int) = g.mo - g.le + 1 := by unfold Fg.k; omega
        omega
      by_cases hlt : i + 1 < L.length
      · obtain ⟨⟨n1, n2⟩, hLn, hn1, hn2⟩ := hnext hlt
        dsimp only at hn1 hn2
        repeat'
          conv => whnf
          first
            | refine And.intro (a := drawB _ = true) (by kernel_rfl) ?_
            | refine And.intro (a := (_ : Bool) = true) rfl ?_
            | refine And.intro (a := (_ : Bool) = true ∧ (_ : Bool) = true) ⟨rfl, rfl⟩ ?_
            | refine And.intro (a := (_ : Bool) = true ∧ (_ : List _) = []) ⟨rfl, rfl⟩ ?_
            | refine And.intro (a := IR _ _) (And.intro (by omega) (by omega)) ?_
            | refine wrapE (And.intro (by omega) (by omega)) ?_
            | refine And.intro (a := (0 : Int) ≤ _ ∧ _ < _) (And.intro (by omega) (by omega)) ?_
            | refine And.intro (a := (_ : Bool) = true) (by simp only [Nat.beq_refl]; rfl) ?_
            | refine And.intro (a := ((_ : Bool) = true → 1 ≤ _) ∧ _ ≤ 9223372036854775807 ∧ _ ≤ 140737488355328) ⟨fun h => (by first | omega | cases h), by omega, by omega⟩ ?_
            | refine splT ?_
            | refine splF ?_
            | refine splNot ?_
            | (refine splIn (fun hc => ?_) (fun hc => ?_) <;> first | (exfalso; omega) | (exfalso; dsimp only at hc; omega) | skip)
            | (refine splD (fun hc => ?_) (fun hc => ?_) <;> first | (exfalso; omega) | (exfalso; dsimp only at hc; omega) | skip)
            | (refine splE (fun hc => ?_) (fun hc => ?_) <;> first | (exfalso; omega) | (exfalso; dsimp only at hc; omega) | skip)
            | (refine splNE (fun hc => ?_) (fun hc => ?_) <;> first | (exfalso; omega) | (exfalso; dsimp only at hc; omega) | skip)
            | refine Exists.intro (α := List Value) [iv (q - need + 1)] ⟨⟨rfl, fun w' hw' => rd_fld hw'.2 hLi 0 _ rfl⟩, ?_⟩
            | refine Exists.intro (α := List Value) [iv q] ⟨⟨rfl, fun w' hw' => rd_fld hw'.2 hLi 1 _ rfl⟩, ?_⟩
            | refine Exists.intro (α := List Value) g.cs ⟨⟨rfl, fun w' hw' => e0 w' hw'.1⟩, ?_⟩
            | ((with_reducible show CallEv _ _ 25 _ _ _ _ _); refine callF [] (fun y : Option Addr × Nat => (g.at y).v) (fun y => Rd 4 Bx.cs (.slice y.1 g.n y.2) bs) (fun β w' _ hbw => fam (Flight_ok g bs w' (hr1.below hbw.1) hbl)) ?_; intro y)
            | ((with_reducible show CallEv _ _ 24 _ _ _ _ _); refine callF [] (fun u : YS C => .tuple #[sV C.length u.1, iv 0]) (fun u => Rd 1 iF (sV C.length u.1) C) (fun β w' _ hbw => hCr y.1 y.2 w' hbw.2) ?_; intro u; obtain ⟨⟨uo, uc⟩, hu⟩ := u; obtain ⟨ad1, huo⟩ := hu.resolve_left hne2; dsimp only at huo; subst huo)
            | refine Exists.intro (α := List Value) [iv cl] ⟨⟨rfl, fun w' hw' => rd_ato hw'.2 hcl _ (by omega)⟩, ?_⟩
            | refine Exists.intro (α := List Value) [iv n1] ⟨⟨rfl, fun w' hw' => rd_fldz hw'.1.1.2 hLn _ (by omega) 0 _ rfl⟩, ?_⟩
        all_goals first | (exfalso; omega) | skip
        all_goals exact ⟨t + 1, by show q - need + 1 + ((t + 1 : Nat) : Int) ≤ _; omega, by omega, Ent.weak rfl ⟨rfl, rfl, rfl, rfl, rfl, rfl, by show _ = some (SV.v (iv (q - need + 1 + ((t + 1 : Nat) : Int)))); rw [htt]; rfl, trivial⟩ trivial fun _ h => h.1.1⟩
      · skip
        repeat'
          conv => whnf
          first
            | refine And.intro (a := drawB _ = true) (by kernel_rfl) ?_
            | refine And.intro (a := (_ : Bool) = true) rfl ?_
            | refine And.intro (a := (_ : Bool) = true ∧ (_ : Bool) = true) ⟨rfl, rfl⟩ ?_
            | refine And.intro (a := (_ : Bool) = true ∧ (_ : List _) = []) ⟨rfl, rfl⟩ ?_
            | refine And.intro (a := IR _ _) (And.intro (by omega) (by omega)) ?_
            | refine wrapE (And.intro (by omega) (by omega)) ?_
            | refine And.intro (a := (0 : Int) ≤ _ ∧ _ < _) (And.intro (by omega) (by omega)) ?_
            | refine And.intro (a := (_ : Bool) = true) (by simp only [Nat.beq_refl]; rfl) ?_
            | refine And.intro (a := ((_ : Bool) = true → 1 ≤ _) ∧ _ ≤ 9223372036854775807 ∧ _ ≤ 140737488355328) ⟨fun h => (by first | omega | cases h), by omega, by omega⟩ ?_
            | refine splT ?_
            | refine splF ?_
            | refine splNot ?_
            | (refine splIn (fun hc => ?_) (fun hc => ?_) <;> first | (exfalso; omega) | (exfalso; dsimp only at hc; omega) | skip)
            | (refine splD (fun hc => ?_) (fun hc => ?_) <;> first | (exfalso; omega) | (exfalso; dsimp only at hc; omega) | skip)
            | (refine splE (fun hc => ?_) (fun hc => ?_) <;> first | (exfalso; omega) | (exfalso; dsimp only at hc; omega) | skip)
            | (refine splNE (fun hc => ?_) (fun hc => ?_) <;> first | (exfalso; omega) | (exfalso; dsimp only at hc; omega) | skip)
            | refine Exists.intro (α := List Value) [iv (q - need + 1)] ⟨⟨rfl, fun w' hw' => rd_fld hw'.2 hLi 0 _ rfl⟩, ?_⟩
            | refine Exists.intro (α := List Value) [iv q] ⟨⟨rfl, fun w' hw' => rd_fld hw'.2 hLi 1 _ rfl⟩, ?_⟩
            | refine Exists.intro (α := List Value) g.cs ⟨⟨rfl, fun w' hw' => e0 w' hw'.1⟩, ?_⟩
            | ((with_reducible show CallEv _ _ 25 _ _ _ _ _); refine callF [] (fun y : Option Addr × Nat => (g.at y).v) (fun y => Rd 4 Bx.cs (.slice y.1 g.n y.2) bs) (fun β w' _ hbw => fam (Flight_ok g bs w' (hr1.below hbw.1) hbl)) ?_; intro y)
            | ((with_reducible show CallEv _ _ 24 _ _ _ _ _); refine callF [] (fun u : YS C => .tuple #[sV C.length u.1, iv 0]) (fun u => Rd 1 iF (sV C.length u.1) C) (fun β w' _ hbw => hCr y.1 y.2 w' hbw.2) ?_; intro u; obtain ⟨⟨uo, uc⟩, hu⟩ := u; obtain ⟨ad1, huo⟩ := hu.resolve_left hne2; dsimp only at huo; subst huo)
            | refine Exists.intro (α := List Value) [iv cl] ⟨⟨rfl, fun w' hw' => rd_ato hw'.2 hcl _ (by omega)⟩, ?_⟩
        all_goals first | (exfalso; omega) | skip
        all_goals exact ⟨t + 1, by show q - need + 1 + ((t + 1 : Nat) : Int) ≤ _; omega, by omega, Ent.weak rfl ⟨rfl, rfl, rfl, rfl, rfl, rfl, by show _ = some (SV.v (iv (q - need + 1 + ((t + 1 : Nat) : Int)))); rw [htt]; rfl, trivial⟩ trivial fun _ h => h.1.1⟩
    · skip
      repeat'
        conv => whnf
        first
          | refine And.intro (a := drawB _ = true) (by kernel_rfl) ?_
          | refine And.intro (a := (_ : Bool) = true) rfl ?_
          | refine And.intro (a := (_ : Bool) = true ∧ (_ : Bool) = true) ⟨rfl, rfl⟩ ?_
          | refine And.intro (a := (_ : Bool) = true ∧ (_ : List _) = []) ⟨rfl, rfl⟩ ?_
          | refine And.intro (a := IR _ _) (And.intro (by omega) (by omega)) ?_
          | refine wrapE (And.intro (by omega) (by omega)) ?_
          | refine And.intro (a := (0 : Int) ≤ _ ∧ _ < _) (And.intro (by omega) (by omega)) ?_
          | refine And.intro (a := (_ : Bool) = true) (by simp only [Nat.beq_refl]; rfl) ?_
          | refine And.intro (a := ((_ : Bool) = true → 1 ≤ _) ∧ _ ≤ 9223372036854775807 ∧ _ ≤ 140737488355328) ⟨fun h => (by first | omega | cases h), by omega, by omega⟩ ?_
          | refine splT ?_
          | refine splF ?_
          | refine splNot ?_
          | (refine splIn (fun hc => ?_) (fun hc => ?_) <;> first | (exfalso; omega) | (exfalso; dsimp only at hc; omega) | skip)
          | (refine splD (fun hc => ?_) (fun hc => ?_) <;> first | (exfalso; omega) | (exfalso; dsimp only at hc; omega) | skip)
          | (refine splE (fun hc => ?_) (fun hc => ?_) <;> first | (exfalso; omega) | (exfalso; dsimp only at hc; omega) | skip)
          | (refine splNE (fun hc => ?_) (fun hc => ?_) <;> first | (exfalso; omega) | (exfalso; dsimp only at hc; omega) | skip)
          | refine Exists.intro (α := List Value) [iv (q - need + 1)] ⟨⟨rfl, fun w' hw' => rd_fld hw'.2 hLi 0 _ rfl⟩, ?_⟩
          | refine Exists.intro (α := List Value) [iv q] ⟨⟨rfl, fun w' hw' => rd_fld hw'.2 hLi 1 _ rfl⟩, ?_⟩
          | refine Exists.intro (α := List Value) [iv g.mo] ⟨⟨rfl, fun w' hw' => e1 w' hw'.1 14 _ rfl⟩, ?_⟩
      all_goals first | (exfalso; omega) | skip
      exact ⟨(i + 1, q + g.mo + rst), ⟨by show i + 1 ≤ _; omega, by show 0 ≤ q + g.mo + rst ∧ q + g.mo + rst ≤ 7400; omega, hci⟩, by show _ - (i + 1) < _ - i; omega, Ent.weak rfl ⟨rfl, rfl, rfl, rfl, rfl, by show _ = some (SV.v (iv ((i + 1 : Nat) : Int))); rw [hii]; rfl, trivial⟩ trivial fun _ h => h⟩
end Go.Proofs.Ytlehjapeomallaa.V
