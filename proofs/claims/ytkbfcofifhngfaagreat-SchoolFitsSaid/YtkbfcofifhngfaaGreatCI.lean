/- Lessons of a slot: what Index, Contains, lesson, slot and all return. -/
import Derived.Test.YtkbfcofifhngfaaGreatCH
namespace Go.Proofs.YtkbfcofifhngfaaGreat
open Go Tx Go.RowKit
set_option linter.unusedSimpArgs false
set_option linter.unusedVariables false

/-- The first number from k on, of n, of which it is so. -/
def fsN (f : Nat → Bool) : Nat → Nat → Nat
  | 0, k => k
  | n + 1, k => if f k then k else fsN f n (k + 1)
theorem fsN_spec {f : Nat → Bool} : ∀ (n k : Nat), k ≤ fsN f n k ∧ fsN f n k ≤ k + n ∧ (∀ i, k ≤ i → i < fsN f n k → f i = false) ∧ (fsN f n k < k + n → f (fsN f n k) = true)
  | 0, k => ⟨Nat.le_refl _, Nat.le_refl _, fun i h1 h2 => by simp only [fsN] at h2; omega, fun h => by simp only [fsN] at h; omega⟩
  | n + 1, k => by
    rw [fsN]
    split
    · rename_i hp
      exact ⟨Nat.le_refl _, by omega, fun i h1 h2 => by omega, fun _ => hp⟩
    · rename_i hp
      obtain ⟨h1, h2, h3, h4⟩ := fsN_spec (f := f) n (k + 1)
      refine ⟨by omega, by omega, fun i q1 q2 => ?_, fun h => h4 (by omega)⟩
      by_cases hi : i = k
      · subst hi; simpa using hp
      · exact h3 i (by omega) q2
theorem fsN_hit {f : Nat → Bool} {n k : Nat} (h : ∀ i, i < k → f i = false) (hk : f k = true) (hn : k < n) : fsN f n 0 = k := by
  obtain ⟨_, h2, h3, h4⟩ := fsN_spec (f := f) n 0
  rcases Nat.lt_trichotomy (fsN f n 0) k with c | c | c
  · have q1 := h4 (by omega)
    have q2 := h _ c
    rw [q1] at q2; cases q2
  · exact c
  · have := h3 k (by omega) c
    rw [hk] at this; cases this
theorem fsN_none {f : Nat → Bool} {n : Nat} (h : ∀ i, i < n → f i = false) : fsN f n 0 = n := by
  obtain ⟨_, h2, h3, h4⟩ := fsN_spec (f := f) n 0
  rcases Nat.lt_or_ge (fsN f n 0) n with c | c
  · have := h _ c
    rw [h4 (by omega)] at this; cases this
  · omega
def ixN (f : Nat → Bool) (n : Nat) : Int := if fsN f n 0 < n then (fsN f n 0 : Int) else -1
theorem ixN_hit {f : Nat → Bool} {n k : Nat} (h : ∀ i, i < k → f i = false) (hk : f k = true) (hn : k < n) : ixN f n = k := by unfold ixN; rw [fsN_hit h hk hn, if_pos hn]
theorem ixN_none {f : Nat → Bool} {n : Nat} (h : ∀ i, i < n → f i = false) : ixN f n = -1 := by unfold ixN; rw [fsN_none h, if_neg (by omega)]
theorem lt_succ_of {f : Nat → Bool} {k : Nat} (h : ∀ i, i < k → f i = false) (hk : f k = false) : ∀ i, i < k + 1 → f i = false := fun i hi => by
  by_cases e : i = k
  · subst e; exact hk
  · exact h i (by omega)
def eqL (l : List Int) (x : Int) (i : Nat) : Bool := l.getD i 0 == x
set_option maxHeartbeats 1000000 in
set_option maxRecDepth 100000 in
theorem Index_ok (l : List Int) (o : Option Addr) (c : Nat) (x : Int) (w : World) (hrd : Rd 1 iF (.slice o l.length c) l w) (hl : l.length ≤ 1000000) :
    Calls Tryz.prog 44 #[.slice o l.length c, iv x] w fun e w' => e = .returned (iv (ixN (eqL l x) l.length)) ∧ Below w.heap.size w w' := by
  refine calls_val env mixed Tryz.func44 has44 Tryz.ntmps44 [.slice o l.length c, iv x] (by simp) ?_
  repeat'
   conv => whnf
   first
    | refine zA ?_ | refine zB ?_ | refine zC ?_ | refine zD ?_ | refine zE ?_ | refine zF ?_ | refine zG ?_ | refine zH ?_ | refine zJ ?_ | refine zI ?_ | refine splT ?_ | refine splF ?_ | refine splNot ?_
    | ((first | refine splIn (fun hc => ?_) (fun hc => ?_) | refine splD (fun hc => ?_) (fun hc => ?_) | refine splE (fun hc => ?_) (fun hc => ?_) | refine splNE (fun hc => ?_) (fun hc => ?_)) <;> first | (exfalso; omega) | (exfalso; dsimp only at hc; omega) | skip)
  refine loopE (fun k : Nat => [(0, .v (.slice o l.length c)), (1, .v (iv x)), (7, .v (iv l.length)), (8, .v (iv k))]) (fun _ => []) (fun k => k ≤ l.length ∧ ∀ i, i < k → eqL l x i = false) (fun k => l.length - k) 0 ⟨Nat.zero_le _, fun i h => absurd h (by omega)⟩ ⟨rfl, rfl, rfl, rfl, trivial⟩ trivial (fun _ => ⟨rfl, rfl⟩) ?_
  intro k ⟨hk, hall⟩
  rcases Nat.lt_or_ge k l.length with hkl | hkl
  · obtain ⟨y, hy⟩ : ∃ b, l[k]? = some b := ⟨_, List.getElem?_eq_getElem hkl⟩
    obtain ⟨_, ad, rfl, _⟩ := hrd.ptr (by omega)
    have e0 := fun (w' : World) hw' => rd_ati (hrd.below (w' := w') hw') hy
    have he : eqL l x k = (y == x) := by unfold eqL; rw [getD_at hy]
    by_cases hyx : x = y
    · rw [ixN_hit hall (by rw [he, hyx]; simp) hkl]
      repeat'
       conv => whnf
       first
        | refine zA ?_ | refine zB ?_ | refine zC ?_ | refine zD ?_ | refine zE ?_ | refine zF ?_ | refine zG ?_ | refine zH ?_ | refine zJ ?_ | refine zI ?_ | refine splT ?_ | refine splF ?_ | refine splNot ?_
        | ((first | refine splIn (fun hc => ?_) (fun hc => ?_) | refine splD (fun hc => ?_) (fun hc => ?_) | refine splE (fun hc => ?_) (fun hc => ?_) | refine splNE (fun hc => ?_) (fun hc => ?_)) <;> first | (exfalso; omega) | (exfalso; dsimp only at hc; omega) | skip)
        | refine Exists.intro (α := List Value) [iv y] ⟨⟨rfl, fun w' hw' => e0 w' hw'⟩, ?_⟩
      all_goals first | (exfalso; omega) | exact ⟨fun β => rfl, fun w' h => h⟩
    · have hf : eqL l x k = false := by rw [he]; simp; omega
      repeat'
       conv => whnf
       first
        | refine zA ?_ | refine zB ?_ | refine zC ?_ | refine zD ?_ | refine zE ?_ | refine zF ?_ | refine zG ?_ | refine zH ?_ | refine zJ ?_ | refine zI ?_ | refine splT ?_ | refine splF ?_ | refine splNot ?_
        | ((first | refine splIn (fun hc => ?_) (fun hc => ?_) | refine splD (fun hc => ?_) (fun hc => ?_) | refine splE (fun hc => ?_) (fun hc => ?_) | refine splNE (fun hc => ?_) (fun hc => ?_)) <;> first | (exfalso; omega) | (exfalso; dsimp only at hc; omega) | skip)
        | refine Exists.intro (α := List Value) [iv y] ⟨⟨rfl, fun w' hw' => e0 w' hw'⟩, ?_⟩
      all_goals first | (exfalso; omega) | exact ⟨k + 1, ⟨by omega, lt_succ_of hall hf⟩, by omega, Ent.weak rfl ⟨rfl, rfl, rfl, rfl, trivial⟩ trivial fun _ h => h⟩
  · rw [ixN_none fun i hi => hall i (by omega)]
    repeat'
     conv => whnf
     first
      | refine zA ?_ | refine zB ?_ | refine zC ?_ | refine zD ?_ | refine zE ?_ | refine zF ?_ | refine zG ?_ | refine zH ?_ | refine zJ ?_ | refine zI ?_ | refine splT ?_ | refine splF ?_ | refine splNot ?_
      | ((first | refine splIn (fun hc => ?_) (fun hc => ?_) | refine splD (fun hc => ?_) (fun hc => ?_) | refine splE (fun hc => ?_) (fun hc => ?_) | refine splNE (fun hc => ?_) (fun hc => ?_)) <;> first | (exfalso; omega) | (exfalso; dsimp only at hc; omega) | skip)
    all_goals first | (exfalso; omega) | exact ⟨fun β => rfl, fun w' h => h⟩
theorem ixN_contains (l : List Int) (x : Int) : decide (ixN (eqL l x) l.length ≥ 0) = l.contains x := by
  rw [Bool.eq_iff_iff, decide_eq_true_eq, List.contains_iff_mem]
  constructor
  · intro h
    obtain ⟨_, h2, h3, h4⟩ := fsN_spec (f := eqL l x) l.length 0
    unfold ixN at h
    split at h
    · rename_i hlt
      have := h4 (by omega)
      generalize fsN (eqL l x) l.length 0 = I at *
      unfold eqL at this
      rw [List.getD_eq_getElem?_getD, List.getElem?_eq_getElem hlt] at this
      have he : l[I] = x := by simpa using this
      rw [← he]; exact List.getElem_mem _
    · omega
  · intro h
    obtain ⟨i, hi, rfl⟩ := List.getElem_of_mem h
    unfold ixN
    split
    · omega
    · rename_i hlt
      obtain ⟨_, h2, h3, h4⟩ := fsN_spec (f := eqL l l[i]) l.length 0
      have := h3 i (by omega) (by omega)
      unfold eqL at this
      rw [List.getD_eq_getElem?_getD, List.getElem?_eq_getElem hi] at this
      simp at this
theorem Contains_ok (l : List Int) (o : Option Addr) (c : Nat) (x : Int) (w : World) (hrd : Rd 1 iF (.slice o l.length c) l w) (hl : l.length ≤ 1000000) :
    Calls Tryz.prog 127 #[.slice o l.length c, iv x] w fun e w' => e = .returned (.bool (l.contains x)) ∧ Below w.heap.size w w' := by
  have c44 := fun (w' : World) (hb : Below w.heap.size w w') => Index_ok l o c x w' (hrd.below hb) hl
  rw [← ixN_contains]
  generalize ixN (eqL l x) l.length = z at *
  refine calls_val env mixed Tryz.func127 has127 Tryz.ntmps127 [.slice o l.length c, iv x] (by simp) ?_
  repeat'
   conv => whnf
   first
    | refine zA ?_ | refine zB ?_ | refine zC ?_ | refine zD ?_ | refine zE ?_ | refine zF ?_ | refine zG ?_ | refine zH ?_ | refine zJ ?_ | refine zI ?_ | refine splT ?_ | refine splF ?_ | refine splNot ?_
    | ((first | refine splIn (fun hc => ?_) (fun hc => ?_) | refine splD (fun hc => ?_) (fun hc => ?_) | refine splE (fun hc => ?_) (fun hc => ?_) | refine splNE (fun hc => ?_) (fun hc => ?_)) <;> first | (exfalso; omega) | (exfalso; dsimp only at hc; omega) | skip)
    | ((with_reducible show CallEv _ _ 44 _ _ _ _ _); refine callE (k := 44) (fun β w' hbw => c44 _ hbw) ?_)
  all_goals first | (exfalso; omega) | exact ⟨fun β => rfl, fun w' h => h⟩
/-- May a lesson be? -/
def lesB (s : SD) (x : Ln) : Bool := inB x.g 0 (s.G.length - 1) && (inB x.j 0 (s.su - 1) && (inB x.t 0 (s.T.length - 1) && ((s.T.getD x.t.toNat ([], 0)).1.contains x.j)))
set_option maxHeartbeats 2000000 in
set_option maxRecDepth 100000 in
theorem lesson_ok (s : Sc) (x : Ln) (w : World) (h : ScIn s w) (hB : ScB s) (hs : -1000000 ≤ s.su ∧ s.su ≤ 1000000) : Calls Tryz.prog 101 #[s.v, .agg #[iv x.g, iv x.j, iv x.t]] w fun e w' => e = .returned (.bool (lesB s.d x)) ∧ Below w.heap.size w w' := by
  obtain ⟨sl, ro, su, go, gc, G, to, tc, T⟩ := s
  obtain ⟨g, j, t⟩ := x
  obtain ⟨hg, hr, ht, hh⟩ := h
  obtain ⟨b1, b2, b3, b4⟩ := hB
  unfold lesB Sc.d
  dsimp only at hg hr ht hh b1 b2 b3 b4 hs ⊢
  rw [List.length_map, List.length_map]
  refine calls_val env mixed Tryz.func101 has101 Tryz.ntmps101 [.agg #[iv sl, iv ro, iv su, .slice go G.length gc, .slice to T.length tc], .agg #[iv g, iv j, iv t]] (by simp) ?_
  have c1 := fun w' => within_ok g 0 (G.length - 1) w'
  have c2 := fun w' => within_ok j 0 (su - 1) w'
  have c3 := fun w' => within_ok t 0 (T.length - 1) w'
  by_cases hin : 0 ≤ t ∧ t ≤ (T.length : Int) - 1
  · obtain ⟨k, rfl⟩ := Int.eq_ofNat_of_zero_le hin.1
    obtain ⟨⟨ro', rc, xs, hh'⟩, hx⟩ : ∃ b, T[k]? = some b := ⟨_, List.getElem?_eq_getElem (by omega)⟩
    obtain ⟨_, ad, rfl, _⟩ := ht.ptr (by omega)
    have hrr := hh _ (List.mem_of_getElem? hx)
    have hrb := b4 _ (List.mem_of_getElem? hx)
    dsimp only at hrr hrb
    have e0 := fun (w' : World) hw' => rd_fld (ht.below (w' := w') hw') hx
    have c127 := fun (w' : World) (hb : Below w.heap.size w w') => Contains_ok xs ro' rc j w' (hrr.below hb) hrb
    have hget : ((T.map Tc.d).getD (k : Int).toNat ([], 0)).1 = xs := by
      rw [Int.toNat_natCast, List.getD_eq_getElem?_getD, List.getElem?_map, hx]; rfl
    rw [hget]
    generalize xs.contains j = q4 at *
    rw [inB_iff.2 hin] at c3 ⊢
    cases q1 : inB g 0 (G.length - 1) <;> cases q2 : inB j 0 (su - 1) <;> cases q4
    all_goals rw [q1] at c1
    all_goals rw [q2] at c2
    all_goals skip
    repeat'
     conv => whnf
     first
      | refine zA ?_ | refine zB ?_ | refine zC ?_ | refine zD ?_ | refine zE ?_ | refine zF ?_ | refine zG ?_ | refine zH ?_ | refine zJ ?_ | refine zI ?_ | refine splT ?_ | refine splF ?_ | refine splNot ?_
      | ((first | refine splIn (fun hc => ?_) (fun hc => ?_) | refine splD (fun hc => ?_) (fun hc => ?_) | refine splE (fun hc => ?_) (fun hc => ?_) | refine splNE (fun hc => ?_) (fun hc => ?_)) <;> first | (exfalso; omega) | (exfalso; dsimp only at hc; omega) | skip)
      | ((with_reducible show CallEv _ _ 61 [.v (iv g), _, _] _ _ _ _); refine callE (k := 61) (fun β w' hbw => c1 _) ?_)
      | ((with_reducible show CallEv _ _ 61 [.v (iv j), _, _] _ _ _ _); refine callE (k := 61) (fun β w' hbw => c2 _) ?_)
      | ((with_reducible show CallEv _ _ 61 [.v (iv k), _, _] _ _ _ _); refine callE (k := 61) (fun β w' hbw => c3 _) ?_)
      | refine Exists.intro (α := List Value) [.slice ro' xs.length rc] ⟨⟨rfl, fun w' hw' => e0 w' hw' 0 _ rfl⟩, ?_⟩
      | ((with_reducible show CallEv _ _ 127 _ _ _ _ _); refine callE (k := 127) (fun β w' hbw => c127 _ hbw) ?_)
    all_goals first | (exfalso; omega) | exact ⟨fun β => rfl, fun w' h => h⟩
  · have q3 : inB t 0 ((T.length : Int) - 1) = false := by
      rw [Bool.eq_false_iff]; intro hc; exact hin (inB_iff.1 hc)
    rw [q3] at c3 ⊢
    cases q1 : inB g 0 (G.length - 1) <;> cases q2 : inB j 0 (su - 1)
    all_goals rw [q1] at c1
    all_goals rw [q2] at c2
    all_goals skip
    repeat'
     conv => whnf
     first
      | refine zA ?_ | refine zB ?_ | refine zC ?_ | refine zD ?_ | refine zE ?_ | refine zF ?_ | refine zG ?_ | refine zH ?_ | refine zJ ?_ | refine zI ?_ | refine splT ?_ | refine splF ?_ | refine splNot ?_
      | ((first | refine splIn (fun hc => ?_) (fun hc => ?_) | refine splD (fun hc => ?_) (fun hc => ?_) | refine splE (fun hc => ?_) (fun hc => ?_) | refine splNE (fun hc => ?_) (fun hc => ?_)) <;> first | (exfalso; omega) | (exfalso; dsimp only at hc; omega) | skip)
      | ((with_reducible show CallEv _ _ 61 [.v (iv g), _, _] _ _ _ _); refine callE (k := 61) (fun β w' hbw => c1 _) ?_)
      | ((with_reducible show CallEv _ _ 61 [.v (iv j), _, _] _ _ _ _); refine callE (k := 61) (fun β w' hbw => c2 _) ?_)
      | ((with_reducible show CallEv _ _ 61 [.v (iv t), _, _] _ _ _ _); refine callE (k := 61) (fun β w' hbw => c3 _) ?_)
    all_goals first | (exfalso; omega) | exact ⟨fun β => rfl, fun w' h => h⟩

/-- Do two lessons want the same group, or the same teacher? -/
def cfB (x y : Ln) : Bool := x.g == y.g || x.t == y.t
def lnAt (l : List Ln) (i : Nat) : Ln := l.getD i ⟨0, 0, 0⟩
theorem lnAt_at {l : List Ln} {i : Nat} {x : Ln} (h : l[i]? = some x) : lnAt l i = x := by unfold lnAt; rw [List.getD_eq_getElem?_getD, h]; rfl
/-- Are lessons those of one slot? -/
def dsB (l : List Ln) (i : Nat) : Bool := alN (fun k => !cfB (lnAt l i) (lnAt l k)) i
def sltB (s : SD) (l : List Ln) : Bool := decide ((l.length : Int) ≤ s.ro) && (l.all (lesB s) && alN (dsB l) l.length)
theorem conf_ok (x y : Ln) (b : Nat) (w : World) (hb : w.heap[b]? = some (.cells x.cs.toArray 46 (0, 0))) : Calls Tryz.prog 99 #[.agg #[iv y.g, iv y.j, iv y.t], .pointer (some ⟨b, 0, none⟩)] w fun e w' => e = .returned (.bool (cfB x y)) ∧ Below w.heap.size w w' := by
  obtain ⟨xg, xj, xt⟩ := x
  obtain ⟨yg, yj, yt⟩ := y
  have e0 := fun (w' : World) (hw : Below w.heap.size w w') => cell_at (C := [iv xg, iv xj, iv xt]) (heap_below hb hw) (o := 0) (v := iv xg) rfl
  have e2 := fun (w' : World) (hw : Below w.heap.size w w') => cell_at (C := [iv xg, iv xj, iv xt]) (heap_below hb hw) (o := 2) (v := iv xt) rfl
  refine calls_val env mixed Tryz.func99 has99 Tryz.ntmps99 [.agg #[iv yg, iv yj, iv yt], .pointer (some ⟨b, 0, none⟩)] (by simp) ?_
  unfold cfB
  dsimp only
  repeat'
   conv => whnf
   first
    | refine zA ?_ | refine zB ?_ | refine zC ?_ | refine zD ?_ | refine zE ?_ | refine zF ?_ | refine zG ?_ | refine zH ?_ | refine zJ ?_ | refine zI ?_ | refine splT ?_ | refine splF ?_ | refine splNot ?_
    | ((first | refine splIn (fun hc => ?_) (fun hc => ?_) | refine splD (fun hc => ?_) (fun hc => ?_) | refine splE (fun hc => ?_) (fun hc => ?_) | refine splNE (fun hc => ?_) (fun hc => ?_)) <;> first | (exfalso; omega) | (exfalso; dsimp only at hc; omega) | skip)
    | refine Exists.intro (α := List Value) [iv xg] ⟨⟨rfl, fun w' hw' => e0 w' hw'⟩, ?_⟩
    | refine Exists.intro (α := List Value) [iv xt] ⟨⟨rfl, fun w' hw' => e2 w' hw'⟩, ?_⟩
  all_goals first | (exfalso; omega) | exact ⟨fun β => congrArg Value.bool (by simp [*]), fun w' h => h⟩
set_option maxHeartbeats 1000000 in
set_option maxRecDepth 100000 in
/-- ContainsFunc of lessons that are against x. -/
theorem anyC_ok (x : Ln) (b : Nat) (L : List Ln) (o : Option Addr) (n c : Nat) (w : World) (hn : n = L.length) (hb : w.heap[b]? = some (.cells x.cs.toArray 46 (0, 0))) (hrd : Rd 3 Ln.cs (.slice o L.length c) L w) (hl : L.length ≤ 1000000) :
    Calls Tryz.prog 98 #[.slice o n c, .func (.func 99) #[] #[.pointer (some ⟨b, 0, none⟩)]] w fun e w' => e = .returned (.bool (!alN (fun k => !cfB x (lnAt L k)) L.length)) ∧ Below w.heap.size w w' := by
  subst hn
  refine calls_val env mixed Tryz.func98 has98 Tryz.ntmps98 [.slice o L.length c, .func (.func 99) #[] #[.pointer (some ⟨b, 0, none⟩)]] (by simp) ?_
  repeat'
   conv => whnf
   first
    | refine zA ?_ | refine zB ?_ | refine zC ?_ | refine zD ?_ | refine zE ?_ | refine zF ?_ | refine zG ?_ | refine zH ?_ | refine zJ ?_ | refine zI ?_ | refine splT ?_ | refine splF ?_ | refine splNot ?_
    | ((first | refine splIn (fun hc => ?_) (fun hc => ?_) | refine splD (fun hc => ?_) (fun hc => ?_) | refine splE (fun hc => ?_) (fun hc => ?_) | refine splNE (fun hc => ?_) (fun hc => ?_)) <;> first | (exfalso; omega) | (exfalso; dsimp only at hc; omega) | skip)
    | ((with_reducible show CallEv _ _ 133 _ _ _ _ _); refine callI env mixed 1000 [] Tryz.func133 has133 Tryz.ntmps133 (Nat.le_of_ble_eq_true rfl) rfl rfl rfl ?_)
  refine loopE (fun k : Nat => [(0, .v (.slice o L.length c)), (1, .v (.func (.func 99) #[] #[.pointer (some ⟨b, 0, none⟩)])), (7, .v (iv L.length)), (8, .v (iv k))]) (fun _ => []) (fun k => k ≤ L.length ∧ alN (fun k => !cfB x (lnAt L k)) k = true) (fun k => L.length - k) 0 ⟨Nat.zero_le _, rfl⟩ ⟨rfl, rfl, rfl, rfl, trivial⟩ trivial (fun _ => ⟨rfl, rfl⟩) ?_
  intro k ⟨hk, hall⟩
  rcases Nat.lt_or_ge k L.length with hkl | hkl
  · obtain ⟨y, hy⟩ : ∃ b, L[k]? = some b := ⟨_, List.getElem?_eq_getElem hkl⟩
    obtain ⟨_, ad, rfl, _⟩ := hrd.ptr (by omega)
    have e0 := fun (w' : World) hw' => rd_ati (hrd.below (w' := w') hw') hy
    have c99 := fun (w' : World) (hw : Below w.heap.size w w') => conf_ok x y b w' (heap_below hb hw)
    have ha := lnAt_at hy
    obtain ⟨yg, yj, yt⟩ := y
    dsimp only at c99
    cases hc : cfB x ⟨yg, yj, yt⟩ with
    | true =>
      rw [hc] at c99
      rw [alN_no hkl (by rw [ha, hc]; rfl)]
      repeat'
       conv => whnf
       first
        | refine zA ?_ | refine zB ?_ | refine zC ?_ | refine zD ?_ | refine zE ?_ | refine zF ?_ | refine zG ?_ | refine zH ?_ | refine zJ ?_ | refine zI ?_ | refine splT ?_ | refine splF ?_ | refine splNot ?_
        | ((first | refine splIn (fun hc => ?_) (fun hc => ?_) | refine splD (fun hc => ?_) (fun hc => ?_) | refine splE (fun hc => ?_) (fun hc => ?_) | refine splNE (fun hc => ?_) (fun hc => ?_)) <;> first | (exfalso; omega) | (exfalso; dsimp only at hc; omega) | skip)
        | refine Exists.intro (α := List Value) [iv yg, iv yj, iv yt] ⟨⟨rfl, fun w' hw' => e0 w' hw'⟩, ?_⟩
        | ((with_reducible show CallEv _ _ 99 _ _ _ _ _); refine callE (k := 99) (fun β w' hbw => c99 _ hbw) ?_)
      all_goals first | (exfalso; omega) | exact ⟨fun β => rfl, fun w' h => h⟩
    | false =>
      rw [hc] at c99
      have hnx : alN (fun k => !cfB x (lnAt L k)) (k + 1) = true := by rw [alN, hall, ha, hc]; rfl
      repeat'
       conv => whnf
       first
        | refine zA ?_ | refine zB ?_ | refine zC ?_ | refine zD ?_ | refine zE ?_ | refine zF ?_ | refine zG ?_ | refine zH ?_ | refine zJ ?_ | refine zI ?_ | refine splT ?_ | refine splF ?_ | refine splNot ?_
        | ((first | refine splIn (fun hc => ?_) (fun hc => ?_) | refine splD (fun hc => ?_) (fun hc => ?_) | refine splE (fun hc => ?_) (fun hc => ?_) | refine splNE (fun hc => ?_) (fun hc => ?_)) <;> first | (exfalso; omega) | (exfalso; dsimp only at hc; omega) | skip)
        | refine Exists.intro (α := List Value) [iv yg, iv yj, iv yt] ⟨⟨rfl, fun w' hw' => e0 w' hw'⟩, ?_⟩
        | ((with_reducible show CallEv _ _ 99 _ _ _ _ _); refine callE (k := 99) (fun β w' hbw => c99 _ hbw) ?_)
      all_goals first | (exfalso; omega) | exact ⟨k + 1, ⟨by omega, hnx⟩, by omega, Ent.weak rfl ⟨rfl, rfl, rfl, rfl, trivial⟩ trivial fun _ h => h⟩
  · obtain rfl : k = L.length := by omega
    rw [hall]
    repeat'
     conv => whnf
     first
      | refine zA ?_ | refine zB ?_ | refine zC ?_ | refine zD ?_ | refine zE ?_ | refine zF ?_ | refine zG ?_ | refine zH ?_ | refine zJ ?_ | refine zI ?_ | refine splT ?_ | refine splF ?_ | refine splNot ?_
      | ((first | refine splIn (fun hc => ?_) (fun hc => ?_) | refine splD (fun hc => ?_) (fun hc => ?_) | refine splE (fun hc => ?_) (fun hc => ?_) | refine splNE (fun hc => ?_) (fun hc => ?_)) <;> first | (exfalso; omega) | (exfalso; dsimp only at hc; omega) | skip)
    all_goals first | (exfalso; omega) | exact ⟨fun β => rfl, fun w' h => h⟩
set_option maxHeartbeats 1000000 in
set_option maxRecDepth 100000 in
theorem allL_ok (s : Sc) (L : List Ln) (o : Option Addr) (c : Nat) (w : World) (h : ScIn s w) (hB : ScB s) (hs : -1000000 ≤ s.su ∧ s.su ≤ 1000000) (hrd : Rd 3 Ln.cs (.slice o L.length c) L w) (hl : L.length ≤ 1000000) :
    Calls Tryz.prog 100 #[.slice o L.length c, .func (.func 101) #[s.v] #[]] w fun e w' => e = .returned (.bool (L.all (lesB s.d))) ∧ Below w.heap.size w w' := by
  refine calls_val env mixed Tryz.func100 has100 Tryz.ntmps100 [.slice o L.length c, .func (.func 101) #[s.v] #[]] (by simp) ?_
  repeat'
   conv => whnf
   first
    | refine zA ?_ | refine zB ?_ | refine zC ?_ | refine zD ?_ | refine zE ?_ | refine zF ?_ | refine zG ?_ | refine zH ?_ | refine zJ ?_ | refine zI ?_ | refine splT ?_ | refine splF ?_ | refine splNot ?_
    | ((first | refine splIn (fun hc => ?_) (fun hc => ?_) | refine splD (fun hc => ?_) (fun hc => ?_) | refine splE (fun hc => ?_) (fun hc => ?_) | refine splNE (fun hc => ?_) (fun hc => ?_)) <;> first | (exfalso; omega) | (exfalso; dsimp only at hc; omega) | skip)
    | ((with_reducible show CallEv _ _ 98 _ _ _ _ _); refine callI env mixed 1000 [] Tryz.func98 has98 Tryz.ntmps98 (Nat.le_of_ble_eq_true rfl) rfl rfl rfl ?_)
    | ((with_reducible show CallEv _ _ 133 _ _ _ _ _); refine callI env mixed 2000 [] Tryz.func133 has133 Tryz.ntmps133 (Nat.le_of_ble_eq_true rfl) rfl rfl rfl ?_)
  refine loopE (fun k : Nat => [(0, .v (.slice o L.length c)), (1, .fn (.func 134) [.ptr 0 0]), (7, .v (iv L.length)), (8, .v (iv k))]) (fun _ => [(0, .cells [.v (.func (.func 101) #[s.v] #[])] 156)]) (fun k => k ≤ L.length ∧ (L.take k).all (lesB s.d) = true) (fun k => L.length - k) 0 ⟨Nat.zero_le _, rfl⟩ ⟨rfl, rfl, rfl, rfl, trivial⟩ ⟨rfl, trivial⟩ (fun _ => ⟨rfl, rfl⟩) ?_
  intro k ⟨hk, hall⟩
  rcases Nat.lt_or_ge k L.length with hkl | hkl
  · obtain ⟨y, hy⟩ : ∃ b, L[k]? = some b := ⟨_, List.getElem?_eq_getElem hkl⟩
    obtain ⟨_, ad, rfl, _⟩ := hrd.ptr (by omega)
    have e0 := fun (w' : World) hw' => rd_ati (hrd.below (w' := w') hw') hy
    have c101 := fun (w' : World) (hw : Below w.heap.size w w') => lesson_ok s y w' (h.below hw) hB hs
    have ht := all_take (p := lesB s.d) hy
    rw [hall, Bool.true_and] at ht
    have hno := all_no (p := lesB s.d) hy
    obtain ⟨yg, yj, yt⟩ := y
    dsimp only at c101
    cases hc : lesB s.d ⟨yg, yj, yt⟩ with
    | true =>
      rw [hc] at c101 ht
      repeat'
       conv => whnf
       first
        | refine zA ?_ | refine zB ?_ | refine zC ?_ | refine zD ?_ | refine zE ?_ | refine zF ?_ | refine zG ?_ | refine zH ?_ | refine zJ ?_ | refine zI ?_ | refine splT ?_ | refine splF ?_ | refine splNot ?_
        | ((first | refine splIn (fun hc => ?_) (fun hc => ?_) | refine splD (fun hc => ?_) (fun hc => ?_) | refine splE (fun hc => ?_) (fun hc => ?_) | refine splNE (fun hc => ?_) (fun hc => ?_)) <;> first | (exfalso; omega) | (exfalso; dsimp only at hc; omega) | skip)
        | refine Exists.intro (α := List Value) [iv yg, iv yj, iv yt] ⟨⟨rfl, fun w' hw' => e0 w' hw'⟩, ?_⟩
        | ((with_reducible show CallEv _ _ 134 _ _ _ _ _); refine callI env mixed 3000 [0,1,5,7,8] Tryz.func134 has134 Tryz.ntmps134 (Nat.le_of_ble_eq_true rfl) rfl rfl rfl ?_)
        | ((with_reducible show CallEv _ _ 101 _ _ _ _ _); refine callE (k := 101) (fun β w' hbw => c101 _ hbw) ?_)
      all_goals first | (exfalso; omega) | exact ⟨k + 1, ⟨by omega, ht⟩, by omega, Ent.weak rfl ⟨rfl, rfl, rfl, rfl, trivial⟩ ⟨rfl, trivial⟩ fun _ h => h⟩
    | false =>
      rw [hc] at c101
      rw [hno hc]
      repeat'
       conv => whnf
       first
        | refine zA ?_ | refine zB ?_ | refine zC ?_ | refine zD ?_ | refine zE ?_ | refine zF ?_ | refine zG ?_ | refine zH ?_ | refine zJ ?_ | refine zI ?_ | refine splT ?_ | refine splF ?_ | refine splNot ?_
        | ((first | refine splIn (fun hc => ?_) (fun hc => ?_) | refine splD (fun hc => ?_) (fun hc => ?_) | refine splE (fun hc => ?_) (fun hc => ?_) | refine splNE (fun hc => ?_) (fun hc => ?_)) <;> first | (exfalso; omega) | (exfalso; dsimp only at hc; omega) | skip)
        | refine Exists.intro (α := List Value) [iv yg, iv yj, iv yt] ⟨⟨rfl, fun w' hw' => e0 w' hw'⟩, ?_⟩
        | ((with_reducible show CallEv _ _ 134 _ _ _ _ _); refine callI env mixed 3000 [0,1,5,7,8] Tryz.func134 has134 Tryz.ntmps134 (Nat.le_of_ble_eq_true rfl) rfl rfl rfl ?_)
        | ((with_reducible show CallEv _ _ 101 _ _ _ _ _); refine callE (k := 101) (fun β w' hbw => c101 _ hbw) ?_)
      all_goals first | (exfalso; omega) | exact ⟨fun β => rfl, fun w' h => h⟩
  · rw [List.take_of_length_le hkl] at hall
    rw [hall]
    repeat'
     conv => whnf
     first
      | refine zA ?_ | refine zB ?_ | refine zC ?_ | refine zD ?_ | refine zE ?_ | refine zF ?_ | refine zG ?_ | refine zH ?_ | refine zJ ?_ | refine zI ?_ | refine splT ?_ | refine splF ?_ | refine splNot ?_
      | ((first | refine splIn (fun hc => ?_) (fun hc => ?_) | refine splD (fun hc => ?_) (fun hc => ?_) | refine splE (fun hc => ?_) (fun hc => ?_) | refine splNE (fun hc => ?_) (fun hc => ?_)) <;> first | (exfalso; omega) | (exfalso; dsimp only at hc; omega) | skip)
    all_goals first | (exfalso; omega) | exact ⟨fun β => rfl, fun w' h => h⟩
end Go.Proofs.YtkbfcofifhngfaaGreat
