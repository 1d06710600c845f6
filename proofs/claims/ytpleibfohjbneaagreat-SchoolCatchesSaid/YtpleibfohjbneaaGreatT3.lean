/- Stays in new memory, in a row that is the caller's own: what Stays returns, said so that one may append to it. -/
import Derived.Test.YtpleibfohjbneaaGreatT2
import Derived.Test.YtpleibfohjbneaaGreatSV
namespace Go.Proofs.YtpleibfohjbneaaGreat
open Go Tx Go.RowKit
set_option linter.unusedSimpArgs false
set_option linter.unusedVariables false

/-- A stay whose hours lie in a new block of their own. -/
abbrev SyO (m : Nat) (s : Sy) (w : World) : Prop := ∃ b, s.o = some ⟨b, 0, none⟩ ∧ m ≤ b ∧ St m (Ro.In ⟨b, s.c, s.xs⟩) w

set_option maxHeartbeats 2000000 in
set_option maxRecDepth 100000 in
theorem StaysO_ok (S : List Sy) (o : Option Addr) (c : Nat) (w : World) (h : SyIn o c S w) (h1 : 1 ≤ S.length) (hr0 : ∀ r ∈ S, r.xs ≠ []) :
    Calls Tryz.prog 31 #[.slice o S.length c] w fun e w' => ∃ (L : List Sy) (b d : Nat), e = .returned (.slice (some ⟨b, 0, none⟩) S.length d) ∧ w.heap.size ≤ b ∧ Below w.heap.size w w' ∧ L.map Sy.d = S.map Sy.d ∧
      w'.ownsRow 0 73 2 (.slice (some ⟨b, 0, none⟩) S.length d) S.length (L.flatMap Sy.cs) ∧ ∀ s ∈ L, SyO w.heap.size s w' := by
  obtain ⟨hrd, hR, hl, hrl⟩ := h
  refine calls_fam2 env mixed Tryz.func31 has31 Tryz.ntmps31 [.slice o S.length c] (by simp) ?_
  repeat'
   conv => whnf
   first
    | refine zA ?_ | refine zB ?_ | refine zC ?_ | refine zD ?_ | refine zE ?_ | refine zF ?_ | refine zG ?_ | refine zH ?_ | refine zJ ?_ | refine zI ?_ | refine splT ?_ | refine splF ?_ | refine splNot ?_
    | ((first | refine splIn (fun hc => ?_) (fun hc => ?_) | refine splD (fun hc => ?_) (fun hc => ?_) | refine splE (fun hc => ?_) (fun hc => ?_) | refine splNE (fun hc => ?_) (fun hc => ?_)) <;> first | (exfalso; omega) | (exfalso; dsimp only at hc; omega) | skip)
  refine loopD 2 (fun D : List Sy => [(0, .v (.slice o S.length c)), (3, oSV 0 1 D), (4, .v (iv D.length))]) (fun D => oM 0 1 2 Sy.cs 73 D)
    (fun D w' => Below w.heap.size w w' ∧ ∀ s ∈ D, SyO w.heap.size s w')
    (fun D => D.length ≤ S.length ∧ D.map Sy.d = (S.map Sy.d).take D.length) (fun D => S.length - D.length) (Dis.ent (x := []) ⟨Nat.zero_le _, rfl⟩ (Ent.weak rfl ⟨rfl, rfl, rfl, trivial⟩ trivial (fun w' h => ⟨h, fun r hr => by cases hr⟩))) (fun D _ => by cases D <;> exact ⟨rfl, rfl⟩) ?_
  intro D ⟨hk, hmap⟩
  rcases Nat.lt_or_ge D.length S.length with hkl | hkl
  · obtain ⟨⟨sp, so, sc, xs⟩, hx⟩ : ∃ b, S[D.length]? = some b := ⟨_, List.getElem?_eq_getElem hkl⟩
    obtain ⟨_, ad, rfl, _⟩ := hrd.ptr (by omega)
    have e1 := fun (w' : World) hw' => rd_fld (hrd.below (w' := w') hw') hx
    have hr := hR _ (List.mem_of_getElem? hx)
    have hrb := hrl _ (List.mem_of_getElem? hx)
    dsimp only at hr hrb
    have hm : (S.map Sy.d)[D.length]? = some (sp, xs) := by rw [List.getElem?_map, hx]; rfl
    have hnew : ∀ y : Option Addr × Nat, (D ++ [(⟨sp, y.1, y.2, xs⟩ : Sy)]).map Sy.d = (S.map Sy.d).take (D ++ [(⟨sp, y.1, y.2, xs⟩ : Sy)]).length := fun y => by
      rw [List.map_append, hmap, List.length_append, List.length_singleton, List.take_add_one, hm]; rfl
    have hl2 : ∀ y : Option Addr × Nat, (D ++ [(⟨sp, y.1, y.2, xs⟩ : Sy)]).length = D.length + 1 := fun y => by simp
    have hh1 : ∀ (b d : Nat) (w' : World), w.heap.size ≤ b → (Below w.heap.size w w' ∧ ∀ s ∈ D, SyO w.heap.size s w') → w'.ownsRow 0 3 1 (.slice (some ⟨b, 0, none⟩) xs.length d) xs.length (xs.flatMap iF) →
        Below w.heap.size w w' ∧ ∀ s ∈ D ++ [(⟨sp, some ⟨b, 0, none⟩, d, xs⟩ : Sy)], SyO w.heap.size s w' := fun b d w' hb h ho => ⟨h.1, fun r hr => by
      rcases List.mem_append.1 hr with hr | hr
      · exact h.2 r hr
      · rw [List.mem_singleton] at hr; subst hr; exact ⟨b, rfl, hb, Ro.st (r := ⟨b, d, xs⟩) hb ho⟩⟩
    generalize hn : D.length = n at *
    cases xs with
    | nil => exact absurd rfl (hr0 _ (List.mem_of_getElem? hx))
    | cons x xs =>
      have hlo := fun (w' : World) (hb : Below w.heap.size w w') => list_own (x :: xs) so sc w' (hr.below hb) (by simp) hrb
      cases D with
      | nil =>
        repeat'
         conv => whnf
         first
          | refine zA ?_ | refine zB ?_ | refine zC ?_ | refine zD ?_ | refine zE ?_ | refine zF ?_ | refine zG ?_ | refine zH ?_ | refine zJ ?_ | refine zI ?_ | refine splT ?_ | refine splF ?_ | refine splNot ?_
          | ((first | refine splIn (fun hc => ?_) (fun hc => ?_) | refine splD (fun hc => ?_) (fun hc => ?_) | refine splE (fun hc => ?_) (fun hc => ?_) | refine splNE (fun hc => ?_) (fun hc => ?_)) <;> first | (exfalso; omega) | (exfalso; dsimp only at hc; omega) | skip)
          | refine Exists.intro (α := List Value) [iv sp] ⟨⟨rfl, fun w' hw' => e1 w' hw'.1 0 _ rfl⟩, ?_⟩
          | refine Exists.intro (α := List Value) [.slice so (x :: xs).length sc] ⟨⟨rfl, fun w' hw' => e1 w' hw'.1 1 _ rfl⟩, ?_⟩
          | ((with_reducible show CallEv _ _ 47 _ _ _ _ _); refine callO 2 [] (.os 2 3 (xs.length + 1)) (xs.length + 1) 1 ((x :: xs).flatMap iF) 3 rfl (fun β w' _ hbw => (hlo w' hbw.1).mono fun _ _ ⟨b, c, h1, h2, h3, h4⟩ => ⟨b, c, h1, h2, h3, h4⟩) ?_)
          | refine appG env 4 1 1 [.v (iv sp), .os 2 3 (xs.length + 1)] 73 0 [] [] rfl rfl rfl rfl rfl (by decide) rfl rfl rfl (fun _ => Nat.le_refl _) (by omega) (by decide) rfl (.inl ⟨rfl, rfl, rfl, rfl⟩) rfl ?_
        refine Dis.mk3 (w0 := w) (rho [(0, 5), (1, 6)]) [2] rfl (fun i hi => by rw [List.mem_singleton] at hi; subst hi; exact ⟨_, rfl, rfl⟩) (fun w' h => h.1) (fun β w1 hok hw1 hge => ⟨[(⟨sp, some ⟨β 2, 0, none⟩, β 3, x :: xs⟩ : Sy)], ⟨⟨by have := hl2 (none, 0); simp only [List.nil_append, List.length_singleton] at this ⊢; omega, hnew (some ⟨β 2, 0, none⟩, β 3)⟩, by have := hl2 (none, 0); simp only [List.nil_append, List.length_singleton] at this ⊢; omega⟩, ⟨⟨_, rfl, rfl⟩, ⟨_, rfl, rfl⟩, ⟨_, rfl, by rw [← hn]; rfl⟩, trivial⟩, ⟨⟨rfl, _, rfl, fun _ => rfl, fun w2 y hy => hy⟩, trivial⟩, rfl, fun w2 hw2 hLo => hh1 (β 2) (β 3) w2 (hge 2 _ rfl rfl) hw2 (hLo 2 (by simp) _ rfl)⟩)
      | cons a D =>
        simp only [List.length_cons] at hn
        repeat'
         conv => whnf
         first
          | refine zA ?_ | refine zB ?_ | refine zC ?_ | refine zD ?_ | refine zE ?_ | refine zF ?_ | refine zG ?_ | refine zH ?_ | refine zJ ?_ | refine zI ?_ | refine splT ?_ | refine splF ?_ | refine splNot ?_
          | ((first | refine splIn (fun hc => ?_) (fun hc => ?_) | refine splD (fun hc => ?_) (fun hc => ?_) | refine splE (fun hc => ?_) (fun hc => ?_) | refine splNE (fun hc => ?_) (fun hc => ?_)) <;> first | (exfalso; omega) | (exfalso; dsimp only at hc; omega) | skip)
          | refine Exists.intro (α := List Value) [iv sp] ⟨⟨rfl, fun w' hw' => e1 w' hw'.1 0 _ rfl⟩, ?_⟩
          | refine Exists.intro (α := List Value) [.slice so (x :: xs).length sc] ⟨⟨rfl, fun w' hw' => e1 w' hw'.1 1 _ rfl⟩, ?_⟩
          | ((with_reducible show CallEv _ _ 47 _ _ _ _ _); refine callO 2 [] (.os 2 3 (xs.length + 1)) (xs.length + 1) 1 ((x :: xs).flatMap iF) 3 rfl (fun β w' _ hbw => (hlo w' hbw.1).mono fun _ _ ⟨b, c, h1, h2, h3, h4⟩ => ⟨b, c, h1, h2, h3, h4⟩) ?_)
          | refine appG env 4 1 1 [.v (iv sp), .os 2 3 (xs.length + 1)] 73 (D.length + 1) ((a :: D).flatMap Sy.cs) [0] rfl rfl rfl rfl rfl (by decide) rfl rfl rfl (fun h => by cases h) (by omega) (by show (D.length + 1 + 1) * 32 ≤ 140737488355328; omega) rfl (.inr ⟨0, 1, rfl, rfl, rfl, (by show 0 < 5; decide)⟩) rfl ?_
        have hl3 : ∀ y : Option Addr × Nat, (a :: D ++ [(⟨sp, y.1, y.2, x :: xs⟩ : Sy)]).length = D.length + 1 + 1 := fun y => by rw [hl2]; omega
        refine Dis.mk3 (w0 := w) (rho [(0, 5), (1, 6)]) [2] rfl (fun i hi => by rw [List.mem_singleton] at hi; subst hi; exact ⟨_, rfl, rfl⟩) (fun w' h => h.1) (fun β w1 hok hw1 hge => ⟨a :: D ++ [(⟨sp, some ⟨β 2, 0, none⟩, β 3, x :: xs⟩ : Sy)], ⟨⟨by have := hl3 (some ⟨β 2, 0, none⟩, β 3); dsimp only at this; omega, hnew (some ⟨β 2, 0, none⟩, β 3)⟩, by have := hl3 (some ⟨β 2, 0, none⟩, β 3); dsimp only at this; omega⟩, ⟨⟨_, rfl, rfl⟩, ⟨_, rfl, by simp [oSV]; rfl⟩, ⟨_, rfl, by rw [hl3 (some ⟨β 2, 0, none⟩, β 3), ← hn]; rfl⟩, trivial⟩, by simp [oM]; exact ⟨⟨rfl, _, rfl, fun _ => rfl, fun w2 y hy => by simp [Blk.ok] at hy ⊢; exact hy⟩, trivial⟩, rfl, fun w2 hw2 hLo => hh1 (β 2) (β 3) w2 (hge 2 _ rfl rfl) hw2 (hLo 2 (by simp) _ rfl)⟩)
  · have hk2 : D.length = S.length := by omega
    rw [hk2, List.take_of_length_le (Nat.le_of_eq (List.length_map ..))] at hmap
    cases D with
    | nil => simp at hk2; omega
    | cons a L =>
      have hDl : L.length + 1 = S.length := by simp at hk2 ⊢; exact hk2
      repeat'
       conv => whnf
       first
        | refine zA ?_ | refine zB ?_ | refine zC ?_ | refine zD ?_ | refine zE ?_ | refine zF ?_ | refine zG ?_ | refine zH ?_ | refine zJ ?_ | refine zI ?_ | refine splT ?_ | refine splF ?_ | refine splNot ?_
        | ((first | refine splIn (fun hc => ?_) (fun hc => ?_) | refine splD (fun hc => ?_) (fun hc => ?_) | refine splE (fun hc => ?_) (fun hc => ?_) | refine splNE (fun hc => ?_) (fun hc => ?_)) <;> first | (exfalso; omega) | (exfalso; dsimp only at hc; omega) | skip)
      refine ⟨fun w' h => h.1, fun β w' hB hB2 hblk => ?_⟩
      obtain ⟨q1, q2⟩ := hblk 0 _ rfl rfl
      refine ⟨a :: L, β 0, β 1, ?_, q1, hB2, hmap, ?_, hB.2⟩
      · show Ending.returned (Value.slice (some ⟨β 0, 0, none⟩) (L.length + 1) (β 1)) = _
        rw [hDl]
      · have q2 : w'.ownsRow 0 73 2 (.slice (some ⟨β 0, 0, none⟩) (L.length + 1) (β 1)) (L.length + 1) ((a :: L).flatMap Sy.cs) := q2
        rw [hDl] at q2
        exact q2
/-- The same as a family: hours that abide whatever happens to the row. -/
theorem StaysX_ok (S : List Sy) (o : Option Addr) (c : Nat) (w : World) (h : SyIn o c S w) (h1 : 1 ≤ S.length) (hr0 : ∀ r ∈ S, r.xs ≠ []) :
    Calls Tryz.prog 31 #[.slice o S.length c] w fun e w' => ∃ (y : {L : List Sy // L.map Sy.d = S.map Sy.d}) (b d : Nat), e = .returned (.slice (some ⟨b, 0, none⟩) S.length d) ∧ w.heap.size ≤ b ∧ Below w.heap.size w w' ∧
      w'.ownsRow 0 73 2 (.slice (some ⟨b, 0, none⟩) S.length d) S.length (y.1.flatMap Sy.cs) ∧ StX w.heap.size b (fun w2 => ∀ s ∈ y.1, Rd 1 iF (.slice s.o s.xs.length s.c) s.xs w2) w' := by
  refine (StaysO_ok S o c w h h1 hr0).mono fun e w' ⟨L, b, d, e1, e2, e3, e4, e5, e6⟩ => ⟨⟨L, e4⟩, b, d, e1, e2, e3, e5, fun w2 k1 k2 s hs => ?_⟩
  obtain ⟨sp, so, sc, xs⟩ := s
  obtain ⟨g, q0, q1, q3⟩ := e6 _ hs
  have q0 : so = some ⟨g, 0, none⟩ := q0
  subst q0
  have q2 : Ro.In ⟨g, sc, xs⟩ w' := q3.now
  have hne : g ≠ b := own_apart q2 e5 (by decide)
  have := Blk.ok_congr (β := fun _ => sc) (β' := fun _ => sc) (b := g) (w := w') (w' := w2) (fr := []) (fun _ _ => rfl) (.own 0 xs.length 1 (xs.flatMap iF) 3) (Blk.av_nil _) (fun _ => k2 _ q1 hne (Ro.lt q2)) q2
  exact Ro.rd (r := ⟨g, sc, xs⟩) this
end Go.Proofs.YtpleibfohjbneaaGreat
