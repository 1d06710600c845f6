/- Rows of a course in new memory, each in a block of its own: what rows and Course return, said so that one may write into them. -/
import Derived.Test.YtpleibfohjbneaaGreatSJ
import Derived.Test.YtpleibfohjbneaaGreatS2
import Derived.Laws.OwnMore
import Derived.Tactics
import Derived.Tactics2
import Derived.WalkKit
import Derived.WalkSpells
import Derived.StillTactics
import Derived.Laws.Pointers
import Derived.Deep.RegionHeld3
import Derived.KernelRfl
namespace Go.Proofs.YtpleibfohjbneaaGreat
open Go Tx Go.RowKit
set_option linter.unusedSimpArgs false
set_option linter.unusedVariables false

/-- A list of numbers in a block of its own. -/
structure Ro where
  b : Nat
  c : Nat
  xs : List Int
abbrev Ro.ad (r : Ro) : Addr := ⟨r.b, 0, none⟩
abbrev Ro.rw (r : Ro) : Rw := ⟨some r.ad, r.c, r.xs⟩
abbrev Ro.In (r : Ro) (w : World) : Prop := w.ownsRow 0 3 1 (.slice (some r.ad) r.xs.length r.c) r.xs.length (r.xs.flatMap iF)
theorem Ro.lt {r : Ro} {w : World} (h : r.In w) : r.b < w.heap.size := (World.ownsRow.lt h r.b rfl).2
theorem Ro.rd {r : Ro} {w : World} (h : r.In w) : Rd 1 iF r.rw.v r.xs w := own_now rfl h
theorem Ro.st {r : Ro} {w : World} {m : Nat} (hb : m ≤ r.b) (h : r.In w) : St m r.In w := fun w2 k => by
  have := Blk.keep (β := fun _ => r.c) (b := r.b) (k := .own 0 r.xs.length 1 (r.xs.flatMap iF) 3) rfl h hb k
  exact this
/-- Rows in new memory that say CC, in blocks that are apart and none of which is among av. -/
structure RwG (CC : List (List Int)) where
  o : Addr
  c : Nat
  D : List Ro
  h : D.map Ro.xs = CC
abbrev RwG.v {CC : List (List Int)} (y : RwG CC) : Value := .slice (some y.o) y.D.length y.c
def RwG.In {CC : List (List Int)} (av : Nat → Prop) (y : RwG CC) (w : World) : Prop := (Rd 1 Rw.cs (.slice (some y.o) y.D.length y.c) (y.D.map Ro.rw) w ∧ ∀ r ∈ y.D, r.In w) ∧ ((y.D.map Ro.b).Nodup ∧ ∀ r ∈ y.D, ¬ av r.b) ∧ ∀ r ∈ y.D, r.b ≠ y.o.block
/-- Own rows of different types do not lie in one block. -/
theorem own_apart {w : World} {e e' n m c c' sz sz' : Nat} {a a' : Addr} {X X' : List Value} (h : w.ownsRow 0 e sz (.slice (some a) n c) n X) (h' : w.ownsRow 0 e' sz' (.slice (some a') m c') m X') (he : e ≠ e') : a.block ≠ a'.block := by
  obtain ⟨_, (⟨h1, _⟩ | ⟨g, cap, cur, h1, _, h2, _⟩)⟩ := h
  · cases h1
  obtain ⟨_, (⟨k1, _⟩ | ⟨g', cap', cur', k1, _, k2, _⟩)⟩ := h'
  · cases k1
  cases h1; cases k1
  rintro rfl
  rw [h2] at k2
  simp only [Option.some.injEq, Obj.cells.injEq] at k2
  exact he k2.2.1
/-- A list copied into a block of its own. -/
theorem list_ro (xs : List Int) (ro : Option Addr) (rc : Nat) (w0 w : World) (av : Nat → Prop) (D : List Ro) (hrd : Rd 1 iF (.slice ro xs.length rc) xs w) (h0 : xs ≠ []) (hl : xs.length ≤ 1000000) (hb : Below w0.heap.size w0 w) (hav : ∀ b, av b → b < w0.heap.size) (hD : ∀ r ∈ D, r.In w) :
    Calls Tryz.prog 47 #[.slice ro xs.length rc] w fun e w' => ∃ y : Nat × Nat, e = .returned (.slice (some ⟨y.1, 0, none⟩) xs.length y.2) ∧ Below w.heap.size w w' ∧
      St w.heap.size (fun w2 => (St w0.heap.size (Ro.In ⟨y.1, y.2, xs⟩) w2) ∧ ¬ av y.1 ∧ ∀ r ∈ D, r.b ≠ y.1) w' :=
  (list_own xs ro rc w hrd h0 hl).mono fun e w' ⟨b, d, h1, h2, h3, h4⟩ => ⟨(b, d), h1, h3, fun w2 k2 =>
    ⟨stst (Ro.st (r := ⟨b, d, xs⟩) h2 h4) hb.size w2 k2, fun hc => by have := hav b hc; have := hb.size; omega, fun r hr => by have := Ro.lt (hD r hr); omega⟩⟩

set_option maxHeartbeats 1000000 in
set_option maxRecDepth 100000 in
theorem rowsG_ok (C : List Rw) (o : Option Addr) (c : Nat) (w : World) (av : Nat → Prop) (hav : ∀ b, av b → b < w.heap.size) (hrd : Rd 1 Rw.cs (.slice o C.length c) C w) (hR : RR C w) (h1 : 1 ≤ C.length) (hl : C.length ≤ 1000000) (hr0 : ∀ r ∈ C, r.xs ≠ []) (hrl : ∀ r ∈ C, r.xs.length ≤ 1000000) :
    Calls Tryz.prog 66 #[.slice o C.length c] w fun e w' => ∃ y : RwG (C.map Rw.xs), e = .returned y.v ∧ Below w.heap.size w w' ∧ St w.heap.size (y.In av) w' := by
  refine calls_fam env mixed Tryz.func66 has66 Tryz.ntmps66 [.slice o C.length c] (by simp) ?_
  repeat'
   conv => whnf
   first
    | refine zA ?_ | refine zB ?_ | refine zC ?_ | refine zD ?_ | refine zE ?_ | refine zF ?_ | refine zG ?_ | refine zH ?_ | refine zJ ?_ | refine zI ?_ | refine splT ?_ | refine splF ?_ | refine splNot ?_
    | ((first | refine splIn (fun hc => ?_) (fun hc => ?_) | refine splD (fun hc => ?_) (fun hc => ?_) | refine splE (fun hc => ?_) (fun hc => ?_) | refine splNE (fun hc => ?_) (fun hc => ?_)) <;> first | (exfalso; omega) | (exfalso; dsimp only at hc; omega) | skip)
  refine loopH 2 (fun D : List Ro => [(0, .v (.slice o C.length c)), (3, oSV 0 1 (D.map Ro.rw)), (4, .v (iv D.length))]) (fun D => oM 0 1 1 Rw.cs 36 (D.map Ro.rw))
    (fun D w' => (Below w.heap.size w w' ∧ ∀ r ∈ D, St w.heap.size r.In w') ∧ (D.map Ro.b).Nodup ∧ ∀ r ∈ D, ¬ av r.b)
    (fun D => D.length ≤ C.length ∧ D.map Ro.xs = (C.map Rw.xs).take D.length) (fun D => C.length - D.length) [] ⟨Nat.zero_le _, rfl⟩ ⟨rfl, rfl, rfl, trivial⟩ trivial (fun w' h => ⟨⟨h, fun r hr => by cases hr⟩, List.nodup_nil, fun r hr => by cases hr⟩) (fun D _ => by cases D <;> exact ⟨rfl, rfl⟩) ?_
  intro D ⟨hk, hmap⟩
  rcases Nat.lt_or_ge D.length C.length with hkl | hkl
  · obtain ⟨⟨ro, rc, xs⟩, hx⟩ : ∃ b, C[D.length]? = some b := ⟨_, List.getElem?_eq_getElem hkl⟩
    obtain ⟨_, ad, rfl, _⟩ := hrd.ptr (by omega)
    have e0 := fun (w' : World) hw' => rd_ati (hrd.below (w' := w') hw') hx
    have hr := hR _ (List.mem_of_getElem? hx)
    have hrb := hrl _ (List.mem_of_getElem? hx)
    have hrn := hr0 _ (List.mem_of_getElem? hx)
    change Rd 1 iF (.slice ro xs.length rc) xs w at hr
    dsimp only at hrb hrn
    have hm : (C.map Rw.xs)[D.length]? = some xs := by rw [List.getElem?_map, hx]; rfl
    have hnew : ∀ y : Nat × Nat, (D ++ [(⟨y.1, y.2, xs⟩ : Ro)]).map Ro.xs = (C.map Rw.xs).take (D ++ [(⟨y.1, y.2, xs⟩ : Ro)]).length := fun y => by
      rw [List.map_append, hmap, List.length_append, List.length_singleton, List.take_add_one, hm]; rfl
    have hl2 : ∀ y : Nat × Nat, (D ++ [(⟨y.1, y.2, xs⟩ : Ro)]).length = D.length + 1 := fun y => by simp
    have hh : ∀ (y : Nat × Nat) w', (((Below w.heap.size w w' ∧ ∀ r ∈ D, St w.heap.size r.In w') ∧ (D.map Ro.b).Nodup ∧ ∀ r ∈ D, ¬ av r.b) ∧ ((St w.heap.size (Ro.In ⟨y.1, y.2, xs⟩) w') ∧ ¬ av y.1 ∧ ∀ r ∈ D, r.b ≠ y.1)) →
        (Below w.heap.size w w' ∧ ∀ r ∈ D ++ [(⟨y.1, y.2, xs⟩ : Ro)], St w.heap.size r.In w') ∧ ((D ++ [(⟨y.1, y.2, xs⟩ : Ro)]).map Ro.b).Nodup ∧ ∀ r ∈ D ++ [(⟨y.1, y.2, xs⟩ : Ro)], ¬ av r.b := fun y w' h => ⟨⟨h.1.1.1, fun r hr => by
      rcases List.mem_append.1 hr with hr | hr
      · exact h.1.1.2 r hr
      · rw [List.mem_singleton] at hr; subst hr; exact h.2.1⟩, by
      rw [List.map_append, List.nodup_append]
      refine ⟨h.1.2.1, by simp, fun a ha b hb e => ?_⟩
      obtain ⟨r, hr, rfl⟩ := List.mem_map.1 ha
      simp only [List.map_cons, List.map_nil, List.mem_singleton] at hb
      exact h.2.2.2 r hr (e.trans hb), fun r hr => by
      rcases List.mem_append.1 hr with hr | hr
      · exact h.1.2.2 r hr
      · rw [List.mem_singleton] at hr; subst hr; exact h.2.2.1⟩
    have hcall := fun (w' : World) (h : (Below w.heap.size w w' ∧ ∀ r ∈ D, St w.heap.size r.In w') ∧ (D.map Ro.b).Nodup ∧ ∀ r ∈ D, ¬ av r.b) => list_ro xs ro rc w w' av D (hr.below h.1.1) hrn hrb h.1.1 hav (fun r hr => (h.1.2 r hr).now)
    generalize hn : D.length = n at *
    cases D with
    | nil =>
      repeat'
       conv => whnf
       first
        | refine zA ?_ | refine zB ?_ | refine zC ?_ | refine zD ?_ | refine zE ?_ | refine zF ?_ | refine zG ?_ | refine zH ?_ | refine zJ ?_ | refine zI ?_ | refine splT ?_ | refine splF ?_ | refine splNot ?_
        | ((first | refine splIn (fun hc => ?_) (fun hc => ?_) | refine splD (fun hc => ?_) (fun hc => ?_) | refine splE (fun hc => ?_) (fun hc => ?_) | refine splNE (fun hc => ?_) (fun hc => ?_)) <;> first | (exfalso; omega) | (exfalso; dsimp only at hc; omega) | skip)
        | refine Exists.intro (α := List Value) [.slice ro xs.length rc] ⟨⟨rfl, fun w' hw' => e0 w' hw'.1.1⟩, ?_⟩
        | ((with_reducible show CallEv _ _ 47 _ _ _ _ _); refine callF [] (fun y : Nat × Nat => .slice (some ⟨y.1, 0, none⟩) xs.length y.2) (fun y w2 => (St w.heap.size (Ro.In ⟨y.1, y.2, xs⟩) w2) ∧ ¬ av y.1 ∧ ∀ r ∈ ([] : List Ro), r.b ≠ y.1) (fun β w' _ hbw => hcall w' hbw) ?_; intro y)
      exact ⟨[(⟨y.1, y.2, xs⟩ : Ro)], ⟨by have := hl2 y; simp only [List.nil_append] at this; omega, hnew y⟩, by have := hl2 y; simp only [List.nil_append] at this; omega, Ent.ren (rho [(0, 3), (1, 4)]) rfl rfl ⟨rfl, rfl, by rw [← hn]; rfl, trivial⟩ ⟨rfl, trivial⟩ (hh y)⟩
    | cons a D =>
      simp only [List.length_cons] at hn
      have hDl : (D.map Ro.rw).length + 1 = n := by simp; exact hn
      repeat'
       conv => whnf
       first
        | refine zA ?_ | refine zB ?_ | refine zC ?_ | refine zD ?_ | refine zE ?_ | refine zF ?_ | refine zG ?_ | refine zH ?_ | refine zJ ?_ | refine zI ?_ | refine splT ?_ | refine splF ?_ | refine splNot ?_
        | ((first | refine splIn (fun hc => ?_) (fun hc => ?_) | refine splD (fun hc => ?_) (fun hc => ?_) | refine splE (fun hc => ?_) (fun hc => ?_) | refine splNE (fun hc => ?_) (fun hc => ?_)) <;> first | (exfalso; omega) | (exfalso; dsimp only at hc; omega) | skip)
        | refine Exists.intro (α := List Value) [.slice ro xs.length rc] ⟨⟨rfl, fun w' hw' => e0 w' hw'.1.1⟩, ?_⟩
        | ((with_reducible show CallEv _ _ 47 _ _ _ _ _); refine callF [] (fun y : Nat × Nat => .slice (some ⟨y.1, 0, none⟩) xs.length y.2) (fun y w2 => (St w.heap.size (Ro.In ⟨y.1, y.2, xs⟩) w2) ∧ ¬ av y.1 ∧ ∀ r ∈ a :: D, r.b ≠ y.1) (fun β w' _ hbw => hcall w' hbw) ?_; intro y)
      exact ⟨a :: D ++ [(⟨y.1, y.2, xs⟩ : Ro)], ⟨by have := hl2 y; omega, hnew y⟩, by have := hl2 y; omega, Ent.ren (rho [(0, 3), (1, 4)]) rfl rfl ⟨rfl, by simp [oSV]; rfl, by rw [← hn]; simp; rfl, trivial⟩ ⟨by simp [oM]; rfl, trivial⟩ (hh y)⟩
  · have hk2 : D.length = C.length := by omega
    rw [hk2, List.take_of_length_le (Nat.le_of_eq (List.length_map ..))] at hmap
    cases D with
    | nil => simp at hk2; omega
    | cons a L =>
      have hDl : (L.map Ro.rw).length + 1 = C.length := by simp at hk2 ⊢; exact hk2
      repeat'
       conv => whnf
       first
        | refine zA ?_ | refine zB ?_ | refine zC ?_ | refine zD ?_ | refine zE ?_ | refine zF ?_ | refine zG ?_ | refine zH ?_ | refine zJ ?_ | refine zI ?_ | refine splT ?_ | refine splF ?_ | refine splNot ?_
        | ((first | refine splIn (fun hc => ?_) (fun hc => ?_) | refine splD (fun hc => ?_) (fun hc => ?_) | refine splE (fun hc => ?_) (fun hc => ?_) | refine splNE (fun hc => ?_) (fun hc => ?_)) <;> first | (exfalso; omega) | (exfalso; dsimp only at hc; omega) | skip)
      refine ⟨fun w' h => h.1.1, fun β w' hB hblk => ?_⟩
      have h0 := hblk 0 _ rfl rfl
      refine ⟨⟨⟨β 0, 0, none⟩, β 1, a :: L, hmap⟩, ?_, fun w2 k2 => ⟨⟨?_, fun r hr => hB.1.2 r hr w2 k2⟩, hB.2, fun r hr e => ?_⟩⟩
      · show Value.slice (some ⟨β 0, 0, none⟩) _ (β 1) = .slice (some ⟨β 0, 0, none⟩) _ (β 1)
        congr 1
        show (L.map Ro.rw).length + 1 = (a :: L).length; rw [List.length_map]; rfl
      · have := Rd.of_owns (sz := 1) (f := Rw.cs) (fun _ => rfl) rfl (by simp) (h0 w2 k2)
        rw [List.length_map] at this
        exact this
      · have q1 := h0 w2 k2
        have q2 := hB.1.2 r hr w2 k2
        exact own_apart q1 q2 (by decide) e.symm
end Go.Proofs.YtpleibfohjbneaaGreat
