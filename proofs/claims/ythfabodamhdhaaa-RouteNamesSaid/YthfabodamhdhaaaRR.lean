/- The planner: the table of stops, the maps, home and begin: what plan returns. -/
import Derived.Test.YthfabodamhdhaaaRQ
namespace Go.Proofs.Ythfabodamhdhaaa
open Go Tx Go.RowKit
set_option linter.unusedSimpArgs false
set_option linter.unusedVariables false
structure Rw5 where
 b : Nat
 c : Nat
 ls : List (Option Addr × Nat)
def LOk (m : Nat) (a d : Nat) (L : List Nat) (y : Option Addr × Nat) (w : World) : Prop := (y = (none, 0) ∧ L = []) ∨ ∃ b, y.1 = some ⟨b, 0, none⟩ ∧ m ≤ b ∧ w.ownsRow 0 96 3 (.slice (some ⟨b, 0, none⟩) L.length y.2) L.length (L.flatMap (slF a d))
def lsV (AL : Nat → List Nat) (days : Nat) (E : List (Option Addr × Nat)) : List Value := (E.mapIdx fun d y => Value.slice y.1 (AL d).length y.2) ++ List.replicate (days - E.length) (.slice none 0 0)
def RwOk (m : Nat) (AL : Nat → List Nat) (days a : Nat) (r : Rw5) (w : World) : Prop := m ≤ r.b ∧ r.ls.length = days ∧ w.ownsRow 0 28 1 (.slice (some ⟨r.b, 0, none⟩) days r.c) days (lsV AL days r.ls) ∧ ∀ d y, r.ls[d]? = some y → LOk m a d (AL d) y w
def rwV (days n : Nat) (D : List Rw5) : List Value := (D.map fun r => Value.slice (some ⟨r.b, 0, none⟩) days r.c) ++ List.replicate (n - D.length) (.slice none 0 0)
def TbOk (m : Nat) (x : To) (D : List Rw5) (w : World) : Prop := ∀ a r, D[a]? = some r → RwOk m (ALO x a) x.days.toNat a r w
theorem lsV_nil (AL : Nat → List Nat) (days : Nat) : lsV AL days [] = (List.replicate days [Value.slice none 0 0]).flatten := by
 simp only [lsV, List.mapIdx_nil, List.nil_append, List.length_nil, Nat.sub_zero]
 induction days with
 | zero => rfl
 | succ n ih => rw [List.replicate_succ, List.replicate_succ, List.flatten_cons, ← ih]; rfl
theorem rwV_nil (days n : Nat) : rwV days n [] = (List.replicate n [Value.slice none 0 0]).flatten := by
 simp only [rwV, List.map_nil, List.nil_append, List.length_nil, Nat.sub_zero]
 induction n with
 | zero => rfl
 | succ n ih => rw [List.replicate_succ, List.replicate_succ, List.flatten_cons, ← ih]; rfl
theorem lsV_rep {AL : Nat → List Nat} {n : Nat} (h : ∀ d, AL d = []) : lsV AL n (List.replicate n (none, 0)) = lsV AL n [] := by
 simp only [lsV, List.mapIdx_nil, List.nil_append, List.length_nil, Nat.sub_zero, List.length_replicate, Nat.sub_self, List.replicate_zero, List.append_nil]
 refine List.ext_getElem? fun i => ?_
 rw [List.getElem?_mapIdx, List.getElem?_replicate, List.getElem?_replicate]
 split <;> simp [h]
theorem TbOk.snoc {m : Nat} {x : To} {D : List Rw5} {r : Rw5} {w : World} (h : TbOk m x D w) (hr : RwOk m (ALO x D.length) x.days.toNat D.length r w) : TbOk m x (D ++ [r]) w := fun a q hq => by
 rcases Nat.lt_or_ge a D.length with hlt | hge
 · rw [List.getElem?_append_left hlt] at hq
   exact h a q hq
 · rw [List.getElem?_append_right hge] at hq
   have ha : a = D.length := by
    have := (List.getElem?_eq_some_iff.1 hq).1
    simp only [List.length_singleton] at this
    omega
   subst ha
   simp only [Nat.sub_self, List.getElem?_cons_zero, Option.some.injEq] at hq
   subst hq
   exact hr
theorem rwV_set {nd n : Nat} {D : List Rw5} (r : Rw5) (h : D.length < n) : (rwV nd n D).set D.length (.slice (some ⟨r.b, 0, none⟩) nd r.c) = rwV nd n (D ++ [r]) := by
 simp only [rwV, List.map_append, List.map_cons, List.map_nil, List.length_append, List.length_singleton]
 rw [List.set_append_right _ _ (by simp), List.length_map, Nat.sub_self, show n - D.length = (n - (D.length + 1)) + 1 from by omega, List.replicate_succ, List.set_cons_zero, List.append_assoc]
 rfl
theorem rwV_len {nd n : Nat} {D : List Rw5} (h : D.length ≤ n) : (rwV nd n D).length = n := by simp [rwV]; omega
abbrev rowX (V : List Value) (i : Nat) (s : SV) : List SV := (V.map SV.v).set i s
theorem rowX_at {V : List Value} {i : Nat} {s : SV} (h : i < V.length) : (rowX V i s)[i]? = some s := by
 rw [List.getElem?_set_self (by rw [List.length_map]; exact h)]
theorem rowX_set (V : List Value) (i : Nat) (s s' : SV) : (rowX V i s).set i s' = rowX V i s' := List.set_set ..
theorem rowX_self {V : List Value} {i : Nat} {v : Value} (h : V[i]? = some v) : rowX V i (.v v) = V.map SV.v := by
 refine List.ext_getElem? fun j => ?_
 rw [List.getElem?_set]
 split
 · rename_i e
   subst e
   rw [List.getElem?_map, h, List.length_map, if_pos (List.getElem?_eq_some_iff.1 h).1]; rfl
 · rfl
theorem rens_map (ρ : Nat → Nat) : ∀ V : List Value, SV.rens ρ (V.map SV.v) = V.map SV.v
 | [] => rfl
 | v :: V => by simp only [List.map_cons, SV.rens, SV.ren, rens_map ρ V]
theorem rens_set (ρ : Nat → Nat) (s : SV) : ∀ (l : List SV) (i : Nat), SV.rens ρ (l.set i s) = (SV.rens ρ l).set i (s.ren ρ)
 | [], _ => rfl
 | a :: l, 0 => rfl
 | a :: l, i + 1 => by simp only [List.set_cons_succ, SV.rens, rens_set ρ s l i]
theorem rens_rowX (ρ : Nat → Nat) (V : List Value) (i : Nat) (s : SV) : SV.rens ρ (rowX V i s) = rowX V i (s.ren ρ) := by rw [rens_set, rens_map]
theorem ren6 {nd i : Nat} {V : List Value} (a : Nat) (L : List Nat) : Blk.ren (rho [(12, 17), (13, 18)]) (.mix 7 nd 1 [] (rowX V i (oSV 12 13 (a :: L))) 28) = .mix 7 nd 1 [] (rowX V i (.os 17 18 (L.length + 1))) 28 := by
 simp only [Blk.ren, rens_rowX]; rfl
theorem ren1 {nd n i : Nat} {V : List Value} : Blk.ren (rho [(12, 17), (13, 18)]) (.mix 2 n 1 [] (rowX V i (.os 6 7 nd)) 168) = .mix 2 n 1 [] (rowX V i (.os 6 7 nd)) 168 := by
 simp only [Blk.ren, rens_rowX]; rfl
theorem ltsX {n : Nat} {V : List Value} {i : Nat} {s : SV} (h : SV.lt n s = true) : SV.lts n (rowX V i s) = true := lts_set h (lts_v _ _)
theorem lsV_len {AL : Nat → List Nat} {days : Nat} {E : List (Option Addr × Nat)} (h : E.length ≤ days) : (lsV AL days E).length = days := by simp [lsV]; omega
theorem lsV_at {AL : Nat → List Nat} {days : Nat} {E : List (Option Addr × Nat)} (h : E.length < days) : (lsV AL days E)[E.length]? = some (.slice none 0 0) := by
 simp only [lsV]
 rw [List.getElem?_append_right (by simp), List.length_mapIdx, Nat.sub_self, List.getElem?_replicate, if_pos (by omega)]
theorem lsV_set {AL : Nat → List Nat} {days : Nat} {E : List (Option Addr × Nat)} (y : Option Addr × Nat) (h : E.length < days) : (lsV AL days E).set E.length (.slice y.1 (AL E.length).length y.2) = lsV AL days (E ++ [y]) := by
 simp only [lsV, List.length_append, List.length_singleton]
 rw [List.set_append_right _ _ (by simp), List.length_mapIdx, Nat.sub_self, show days - E.length = (days - (E.length + 1)) + 1 from by omega, List.replicate_succ, List.set_cons_zero, List.mapIdx_append]
 simp
theorem ls_conv {AL : Nat → List Nat} {nd : Nat} {E : List (Option Addr × Nat)} {s : SV} {y : Option Addr × Nat} {β : Nat → Nat} {w : World} {b : Nat} (hl : E.length < nd) (hs : s.c β = .slice y.1 (AL E.length).length y.2) (h : (Blk.mix 7 nd 1 [] (rowX (lsV AL nd E) E.length s) 28).ok β w b) :
 (Blk.mix 7 nd 1 [] ((lsV AL nd (E ++ [y])).map SV.v) 28).ok (fun i => β (id i)) w b := by
 simp only [Blk.ok, cs_v, cs_set] at h ⊢
 rw [← lsV_set y hl, ← hs]
 exact h
theorem ls_snoc {m a : Nat} {AL : Nat → List Nat} {E : List (Option Addr × Nat)} {y : Option Addr × Nat} {w : World} (h : ∀ d z, E[d]? = some z → LOk m a d (AL d) z w) (hy : LOk m a E.length (AL E.length) y w) : ∀ d z, (E ++ [y])[d]? = some z → LOk m a d (AL d) z w := fun d z hz => by
 rcases Nat.lt_or_ge d E.length with hlt | hge
 · rw [List.getElem?_append_left hlt] at hz
   exact h d z hz
 · rw [List.getElem?_append_right hge] at hz
   have hd : d = E.length := by
    have := (List.getElem?_eq_some_iff.1 hz).1
    simp only [List.length_singleton] at this
    omega
   subst hd
   simp only [Nat.sub_self, List.getElem?_cons_zero, Option.some.injEq] at hz
   subst hz
   exact hy
theorem tb_conv {nd n : Nat} {D : List Rw5} {r : Rw5} {β : Nat → Nat} {w : World} {y : Nat} (hl : D.length < n) (hb : r.b = β 6) (hc : r.c = β 7) (h : (Blk.mix 2 n 1 [] (((rwV nd n D).map SV.v).set ((D.length : Int).toNat * ti168.size) (.os 6 7 nd)) 168).ok β w y) :
 (Blk.mix 2 n 1 [] ((rwV nd n (D ++ [r])).map SV.v) 168).ok (fun i => β (id i)) w y := by
 have e : (D.length : Int).toNat * ti168.size = D.length := by rw [Int.toNat_natCast]; exact Nat.mul_one _
 rw [e] at h
 simp only [Blk.ok, cs_v, cs_set] at h ⊢
 rw [← rwV_set r hl, hb, hc]
 exact h
theorem own_heap {w : World} {b n c sz ty : Nat} {xs : List Value} (h : w.ownsRow 0 ty sz (.slice (some ⟨b, 0, none⟩) n c) n xs) : ∃ cur, w.heap[b]? = some (.cells cur ty (0, 0)) := by
 rcases h.2 with ⟨h', _⟩ | ⟨g, cap, cur, q0, q1, q2, _⟩
 · cases h'
 · simp only [Value.slice.injEq, Option.some.injEq, Addr.mk.injEq, and_true, true_and] at q0
   obtain ⟨rfl, rfl⟩ := q0
   exact ⟨cur, q2⟩
theorem own_keep {w w2 : World} {b n c sz ty : Nat} {xs : List Value} (h : w.ownsRow 0 ty sz (.slice (some ⟨b, 0, none⟩) n c) n xs) (e : w2.heap[b]? = w.heap[b]?) : w2.ownsRow 0 ty sz (.slice (some ⟨b, 0, none⟩) n c) n xs := by
 have := Blk.keep_at (β := fun _ => c) (b := b) (k := .own 0 n sz xs ty) e h
 exact this
theorem TbOk.keep {m : Nat} {x : To} {D : List Rw5} {w w2 : World} (h : TbOk m x D w) (hs : ∀ c cur ty, m ≤ c → w.heap[c]? = some (.cells cur ty (0, 0)) → ty = 28 ∨ ty = 96 → w2.heap[c]? = w.heap[c]?) : TbOk m x D w2 := fun a r hr => by
 obtain ⟨h1, h2, h3, h4⟩ := h a r hr
 refine ⟨h1, h2, ?_, fun d y hy => ?_⟩
 · obtain ⟨cur, hc⟩ := own_heap h3
   exact own_keep h3 (hs _ cur 28 h1 hc (.inl rfl))
 · rcases h4 d y hy with h5 | ⟨b, h5, h6, h7⟩
   · exact .inl h5
   · obtain ⟨cur, hc⟩ := own_heap h7
     exact .inr ⟨b, h5, h6, own_keep h7 (hs _ cur 96 h6 hc (.inr rfl))⟩
def alp (b : Nat) (D : List Rw5) : Alp where
 aa := ⟨b, 0, none⟩
 ra a := match D[a]? with | some r => (⟨r.b, 0, none⟩, r.c) | none => (⟨0, 0, none⟩, 0)
 so a d := match D[a]? with | some r => (r.ls[d]?).getD (none, 0) | none => (none, 0)
theorem al_in {x : To} {m b c : Nat} {D : List Rw5} {w : World} (hD : D.length = x.T.length) (hT : w.ownsRow 0 168 1 (.slice (some ⟨b, 0, none⟩) x.T.length c) x.T.length (rwV x.days.toNat x.T.length D)) (hTb : TbOk m x D w) : AlIn x (ALO x) (alp b D) w := fun a h1 h2 => by
 obtain ⟨r, hr⟩ : ∃ r, D[a]? = some r := ⟨_, List.getElem?_eq_getElem (by omega)⟩
 obtain ⟨q1, q2, q3, q4⟩ := hTb a r hr
 have e1 : (alp b D).ra a = (⟨r.b, 0, none⟩, r.c) := by simp only [alp, hr]
 have e2 : ∀ d, (alp b D).so a d = (r.ls[d]?).getD (none, 0) := fun d => by simp only [alp, hr]
 rw [e1]
 refine ⟨?_, fun d hd => ?_⟩
 · have hv : (rwV x.days.toNat x.T.length D)[a]? = some (.slice (some ⟨r.b, 0, none⟩) x.days.toNat r.c) := by
    simp only [rwV]
    rw [List.getElem?_append_left (by rw [List.length_map]; omega), List.getElem?_map, hr]; rfl
   have := hT.cells (g := b) rfl _ _ hv
   rw [own_add, Nat.zero_add] at this
   show w.cell? ((⟨b, 0, none⟩ : Addr).add (a * 1)) = _
   rw [own_add, Nat.zero_add, Nat.mul_one]
   exact this
 · obtain ⟨y, hy⟩ : ∃ y, r.ls[d]? = some y := ⟨_, List.getElem?_eq_getElem (by omega)⟩
   rw [e2, hy, Option.getD_some]
   refine ⟨?_, ?_⟩
   · have hv : (lsV (ALO x a) x.days.toNat r.ls)[d]? = some (.slice y.1 (ALO x a d).length y.2) := by
      simp only [lsV]
      rw [List.getElem?_append_left (by rw [List.length_mapIdx]; omega), List.getElem?_mapIdx, hy]; rfl
     have := q3.cells (g := r.b) rfl _ _ hv
     rw [own_add, Nat.zero_add] at this
     show w.cell? ((⟨r.b, 0, none⟩ : Addr).add (d * 1)) = _
     rw [own_add, Nat.zero_add, Nat.mul_one]
     exact this
   · rcases q4 d y hy with ⟨rfl, h5⟩ | ⟨g, h5, h6, h7⟩
     · rw [h5]; exact .inl ⟨rfl, rfl⟩
     · rw [h5]
       exact Rd.of_owns (sz := 3) (f := slF a d) (fun _ => rfl) rfl rfl h7
set_option maxHeartbeats 4000000 in
set_option maxRecDepth 100000 in
theorem plan_ok (x : Tr) (w : World) (h : TrIn x w) (hn : ToN x.d) : Calls Try.prog 57 #[x.v] w fun e w' => ∃ (aa : Alp) (an ac b1 b2 : Nat) (β : Nat → Nat), e = .returned (.pointer (some ⟨β 2, 0, none⟩)) ∧ an = x.T.length ∧ Below w.heap.size w w' ∧ PS x (ALO x.d) aa an ac b1 b2 β w' ∧ (∀ i, i < 6 → w.heap.size ≤ β i) ∧
 ∀ w2, w'.heap.size ≤ w2.heap.size → (∀ c, w.heap.size ≤ c → c < w'.heap.size → (∀ i, i < 6 → β i ≠ c) → w2.heap[c]? = w'.heap[c]?) → AlIn x.d (ALO x.d) aa w2 := by
 have hday := hn.d
 have hnT := hn.n
 have hnd : ∃ nd : Nat, x.days = nd := ⟨x.days.toNat, by simp only [Tr.d] at hday; omega⟩
 obtain ⟨days, shift, size, to, tc, T, lo, lc, L⟩ := x
 obtain ⟨nd, hnd⟩ := hnd
 dsimp only at hnd
 subst hnd
 simp only [Tr.d, List.length_map] at hday hnT
 obtain ⟨_, ta, rfl, _⟩ := h.t.ptr (by show 1 ≤ T.length; omega)
 refine calls_fam3 env mixed Try.func57 has57 Try.ntmps57 [.agg #[iv nd, iv shift, iv size, .slice (some ta) T.length tc, .slice lo L.length lc]] (by simp) ?_
 repeat'
  conv => whnf
  first
   | refine zA ?_ | refine zB ?_ | refine zC ?_ | refine zD ?_ | refine zE ?_ | refine zF ?_ | refine zG ?_ | refine zH ?_ | refine zJ ?_ | refine zI ?_ | refine splT ?_ | refine splF ?_ | refine splNot ?_
   | ((first | refine splIn ?_ ?_ | refine splD ?_ ?_ | refine splE ?_ ?_ | refine splNE ?_ ?_) <;> intro hc <;> first | (exfalso; omega) | (exfalso; dsimp only at hc; omega) | skip)
   | refine mkO env 1 T.length (rwV nd T.length []) rfl rfl rfl (by decide) rfl (by omega) (by decide) (rwV_nil _ _) rfl ?_
 refine loopD 5 (fun D : List Rw5 => [(1, .ptr 0 0), (3, .ptr 4 0), (17, .v (iv T.length)), (18, .v (iv D.length))]) (fun D => [(0, .cells [.v (iv nd), .v (iv shift), .v (iv size), .v (.slice (some ta) T.length tc), .v (.slice lo L.length lc)] 35), (1, .mix 2 T.length 1 [] ((rwV nd T.length D).map SV.v) 168), (3, .cells [.v (iv nd), .v (iv shift), .v (iv size), .v (.slice (some ta) T.length tc), .v (.slice lo L.length lc), .os 1 2 T.length, .v Value.nilFunc, .v Value.nilFunc] 122), (4, .cells [.ptr 3 0] 114)])
  (fun D w' => Below w.heap.size w w' ∧ TbOk w.heap.size (Tr.d ⟨(nd : Int), shift, size, some ta, tc, T, lo, lc, L⟩) D w') (fun D => D.length ≤ T.length) (fun D => T.length - D.length)
  (Dis.mk3 (w0 := w) id [] rfl (fun i hi => by cases hi) (fun w' h => h) (fun β w1 hok hw1 hge => ⟨[], Nat.zero_le _, ⟨⟨_, rfl, rfl⟩, ⟨_, rfl, rfl⟩, ⟨_, rfl, rfl⟩, ⟨_, rfl, rfl⟩, trivial⟩, ⟨⟨rfl, _, rfl, fun _ => rfl, fun w2 y hy => hy⟩, ⟨rfl, _, rfl, fun _ => rfl, fun w2 y hy => by simp only [Blk.ok, cs_v] at hy ⊢; exact hy⟩, ⟨rfl, _, rfl, fun _ => rfl, fun w2 y hy => hy⟩, ⟨rfl, _, rfl, fun _ => rfl, fun w2 y hy => hy⟩, trivial⟩, rfl, fun w2 hw2 _ => ⟨hw2, fun a r hr => by cases hr⟩⟩))
  (fun D hD => ⟨rfl, by simp only [mB, Blk.lt, lts_v]; rfl⟩) ?_
 intro D hD
 rcases Nat.lt_or_ge D.length T.length with hkl | hkl
 · have hVl := rwV_len (nd := nd) (n := T.length) hD
   repeat'
    conv => whnf
    first
     | refine zA ?_ | refine zB ?_ | refine zC ?_ | refine zD ?_ | refine zE ?_ | refine zF ?_ | refine zG ?_ | refine zH ?_ | refine zJ ?_ | refine zI ?_ | refine splT ?_ | refine splF ?_ | refine splNot ?_
     | ((first | refine splIn ?_ ?_ | refine splD ?_ ?_ | refine splE ?_ ?_ | refine splNE ?_ ?_) <;> intro hc <;> first | (exfalso; omega) | (exfalso; dsimp only at hc; omega) | skip)
     | refine nilE rfl rfl ?_
     | refine mkO env 6 nd (lsV (ALO (Tr.d ⟨(nd : Int), shift, size, some ta, tc, T, lo, lc, L⟩) D.length) nd []) rfl rfl rfl (by decide) rfl (by omega) (by decide) (lsV_nil _ _) rfl ?_
     | refine Tx.stM env (.os 6 7 nd) rfl rfl rfl rfl rfl rfl rfl (by rw [List.length_map, hVl, Int.toNat_natCast]; show D.length * 1 < _; omega) rfl rfl (lts_v _ _) rfl ?_
     | ((with_reducible show CallEv _ _ 83 _ _ _ _ _); refine callR [8, 9, 10] [] (stB ⟨(nd : Int), shift, size, some ta, tc, T, lo, lc, L⟩ D.length 0 8) (.fn (.func 114) [.ptr 8 0, .ptr 9 0, .ptr 10 0]) rfl (fun i b hm => by simp only [stB, List.mem_cons, Prod.mk.injEq, List.not_mem_nil, or_false] at hm ⊢; omega) (fun β w' _ hbw => stops_R ⟨(nd : Int), shift, size, some ta, tc, T, lo, lc, L⟩ D.length 0 8 β w') ?_)
   · have hD0 : D.length = 0 := by omega
     refine Dis.mk3 (w0 := w) id [6] rfl (fun i hi => by rw [List.mem_singleton] at hi; subst hi; exact ⟨_, rfl, rfl⟩) (fun w' h => h.1) (fun β w1 hok hw1 hge => ⟨D ++ [⟨β 6, β 7, List.replicate nd (none, 0)⟩], ⟨by simp; omega, by simp; omega⟩, ⟨⟨_, rfl, rfl⟩, ⟨_, rfl, rfl⟩, ⟨_, rfl, rfl⟩, ⟨_, rfl, by rw [List.length_append, Int.natCast_add]; rfl⟩, trivial⟩, ⟨⟨rfl, _, rfl, fun _ => rfl, fun w2 y hy => hy⟩, ⟨rfl, _, rfl, fun _ => rfl, fun w2 y hy => tb_conv hkl rfl rfl hy⟩, ⟨rfl, _, rfl, fun _ => rfl, fun w2 y hy => hy⟩, ⟨rfl, _, rfl, fun _ => rfl, fun w2 y hy => hy⟩, trivial⟩, rfl, fun w2 hw2 hLo => ⟨hw2.1, hw2.2.snoc ⟨hge 6 _ rfl rfl, List.length_replicate .., ?_, fun d y hy => ?_⟩⟩⟩)
     · have hAL : ∀ d, ALO (Tr.d ⟨(nd : Int), shift, size, some ta, tc, T, lo, lc, L⟩) D.length d = [] := fun d => by unfold ALO; rw [if_pos hD0]
       show World.ownsRow _ 0 28 1 _ nd (lsV (ALO (Tr.d ⟨(nd : Int), shift, size, some ta, tc, T, lo, lc, L⟩) D.length) nd (List.replicate nd (none, 0)))
       rw [lsV_rep hAL]
       exact hLo 6 (by simp) _ rfl
     · have hAL : ∀ d, ALO (Tr.d ⟨(nd : Int), shift, size, some ta, tc, T, lo, lc, L⟩) D.length d = [] := fun d => by unfold ALO; rw [if_pos hD0]
       rw [List.getElem?_replicate] at hy
       split at hy
       · simp only [Option.some.injEq] at hy
         exact .inl ⟨hy.symm, hAL d⟩
       · cases hy
   · have hDn : 1 ≤ D.length := by omega
     have htn := twN_of hn hDn (by simp only [Tr.d, List.length_map]; exact hkl)
     obtain ⟨t, ht⟩ : ∃ t, T[D.length]? = some t := ⟨_, List.getElem?_eq_getElem hkl⟩
     have htw : twO (Tr.d ⟨(nd : Int), shift, size, some ta, tc, T, lo, lc, L⟩) D.length = t.d := twO_eq (x := ⟨(nd : Int), shift, size, some ta, tc, T, lo, lc, L⟩) (k := D.length) ht
     have hT := h.t
     dsimp only at hT
     have hAL0 : ∀ f, ALO (Tr.d ⟨(nd : Int), shift, size, some ta, tc, T, lo, lc, L⟩) D.length f = ALp (Tr.d ⟨(nd : Int), shift, size, some ta, tc, T, lo, lc, L⟩) D.length f ((twO (Tr.d ⟨(nd : Int), shift, size, some ta, tc, T, lo, lc, L⟩) D.length).s2 - (twO (Tr.d ⟨(nd : Int), shift, size, some ta, tc, T, lo, lc, L⟩) D.length).s1 + 1).toNat := fun f => by unfold ALO; rw [if_neg (by omega)]
     have hALs : ∀ f j, ALp (Tr.d ⟨(nd : Int), shift, size, some ta, tc, T, lo, lc, L⟩) D.length f (j + 1) = if aloB (Tr.d ⟨(nd : Int), shift, size, some ta, tc, T, lo, lc, L⟩) D.length f ((f : Int) + ((twO (Tr.d ⟨(nd : Int), shift, size, some ta, tc, T, lo, lc, L⟩) D.length).s1 + j) - 1) = true then ALp (Tr.d ⟨(nd : Int), shift, size, some ta, tc, T, lo, lc, L⟩) D.length f j ++ [((f : Int) + ((twO (Tr.d ⟨(nd : Int), shift, size, some ta, tc, T, lo, lc, L⟩) D.length).s1 + j) - 1).toNat] else ALp (Tr.d ⟨(nd : Int), shift, size, some ta, tc, T, lo, lc, L⟩) D.length f j := fun f j => rfl
     rw [htw] at hAL0 hALs htn
     obtain ⟨oo, oc, ro, rc, O, s1, s2, pay, lot, rent, R, cold, cut⟩ := t
     have hs := htn.s
     dsimp only at hs hAL0 hALs
     have e3 := fun (w' : World) (hw' : Below w.heap.size w w') => rd_flds (hT.below (w' := w') hw') ht (D.length : Int) rfl 1 [iv s1, iv s2] (fun j v hj => by
      match j, hj with
      | 0, hj => exact hj
      | 1, hj => exact hj)
     have hsT : (rowX (rwV nd T.length D) ((D.length : Int).toNat * ti168.size) (.os 6 7 nd))[(D.length : Int).toNat * ti168.size]? = some (.os 6 7 nd) := rowX_at (by rw [hVl, Int.toNat_natCast]; show D.length * 1 < _; omega)
     conv => whnf
     refine rf_inline env mixed 1000 [1, 3, 4, 17, 18] Try.func114 has114 Try.ntmps114 rfl rfl (by decide) rfl rfl ?_
     intro lp asg bdy hasg hbdy
     repeat'
      conv => whnf
      first
       | refine zA ?_ | refine zB ?_ | refine zC ?_ | refine zD ?_ | refine zE ?_ | refine zF ?_ | refine zG ?_ | refine zH ?_ | refine zJ ?_ | refine zI ?_ | refine splT ?_ | refine splF ?_ | refine splNot ?_
       | ((first | refine splIn ?_ ?_ | refine splD ?_ ?_ | refine splE ?_ ?_ | refine splNE ?_ ?_) <;> intro hc <;> first | (exfalso; omega) | (exfalso; dsimp only at hc; omega) | skip)
       | refine Exists.intro (α := List Value) [iv s1, iv s2] ⟨⟨rfl, fun w' hw' => e3 w' hw'.1⟩, ?_⟩
     all_goals first | (exfalso; omega) | skip
     refine loopD 12 (fun E : List (Option Addr × Nat) => [(0, .v (.func (.yield lp) #[] #[])), (1, .ptr 8 0), (2, .ptr 9 0), (5, .ptr 11 0), (6, .v (iv E.length))]) (fun E => [(0, .cells [.v (iv nd), .v (iv shift), .v (iv size), .v (.slice (some ta) T.length tc), .v (.slice lo L.length lc)] 35), (1, .mix 2 T.length 1 [] (rowX (rwV nd T.length D) ((D.length : Int).toNat * ti168.size) (.os 6 7 nd)) 168), (3, .cells [.v (iv nd), .v (iv shift), .v (iv size), .v (.slice (some ta) T.length tc), .v (.slice lo L.length lc), .os 1 2 T.length, .v Value.nilFunc, .v Value.nilFunc] 122), (4, .cells [.ptr 3 0] 114), (5, .cells [.v (iv D.length)] 3), (6, .mix 7 nd 1 [] ((lsV (ALO (Tr.d ⟨(nd : Int), shift, size, some ta, tc, T, lo, lc, L⟩) D.length) nd E).map SV.v) 28), (8, .cells [.v (iv nd), .v (iv shift), .v (iv size), .v (.slice (some ta) T.length tc), .v (.slice lo L.length lc)] 35), (9, .cells [.v (iv D.length)] 3), (10, .cells [.v (iv 0)] 3), (11, .cells [.v (iv s1), .v (iv s2)] 55)])
      (fun E w' => (Below w.heap.size w w' ∧ TbOk w.heap.size (Tr.d ⟨(nd : Int), shift, size, some ta, tc, T, lo, lc, L⟩) D w') ∧ ∀ d y, E[d]? = some y → LOk w.heap.size D.length d ((ALO (Tr.d ⟨(nd : Int), shift, size, some ta, tc, T, lo, lc, L⟩) D.length) d) y w') (fun E => E.length ≤ nd) (fun E => nd - E.length)
      (Dis.mk4 (w0 := w) id [] ⟨fun β => rfl, fun β => rfl, fun β => rfl, fun β => rfl, fun β => rfl, trivial⟩ (fun i hi => by cases hi) (fun w' h => h.1) (fun β w1 hok hw1 hge => ⟨[], Nat.zero_le _, ⟨⟨_, rfl, rfl⟩, ⟨_, rfl, rfl⟩, ⟨_, rfl, rfl⟩, ⟨_, rfl, rfl⟩, ⟨_, rfl, rfl⟩, trivial⟩,
       ⟨⟨rfl, _, rfl, fun _ => rfl, fun w2 y hy => hy⟩, ⟨rfl, _, rfl, fun _ => rfl, fun w2 y hy => hy⟩, ⟨rfl, _, rfl, fun _ => rfl, fun w2 y hy => hy⟩, ⟨rfl, _, rfl, fun _ => rfl, fun w2 y hy => hy⟩, ⟨rfl, _, rfl, fun _ => rfl, fun w2 y hy => hy⟩, ⟨rfl, _, rfl, fun _ => rfl, fun w2 y hy => by simp only [Blk.ok, cs_v] at hy ⊢; exact hy⟩, ⟨rfl, _, rfl, fun _ => rfl, fun w2 y hy => hy⟩, ⟨rfl, _, rfl, fun _ => rfl, fun w2 y hy => hy⟩, ⟨rfl, _, rfl, fun _ => rfl, fun w2 y hy => hy⟩, ⟨rfl, _, rfl, fun _ => rfl, fun w2 y hy => hy⟩, trivial⟩, rfl, fun w2 hw2 _ => ⟨hw2, fun d y hd => by cases hd⟩⟩))
      (fun E _ => ⟨rfl, by simp only [mB, Blk.lt, lts_v, lts_set (s := .os 6 7 nd) (n := 12) rfl (lts_v _ _)]; rfl⟩) ?_
     intro E hE
     have e28 : (E.length : Int).toNat * ti28.size = E.length := by rw [Int.toNat_natCast]; exact Nat.mul_one _
     have hEl := lsV_len (AL := (ALO (Tr.d ⟨(nd : Int), shift, size, some ta, tc, T, lo, lc, L⟩) D.length)) hE
     rcases Nat.lt_or_ge E.length nd with hlt | hge
     · have hAE := hAL0 E.length
       have hAs := hALs E.length
       obtain ⟨N, hN⟩ : ∃ N, (s2 - s1 + 1).toNat = N := ⟨_, rfl⟩
       rw [hN] at hAE
       repeat'
        conv => whnf
        first
         | refine zA ?_ | refine zB ?_ | refine zC ?_ | refine zD ?_ | refine zE ?_ | refine zF ?_ | refine zG ?_ | refine zH ?_ | refine zJ ?_ | refine zI ?_ | refine splT ?_ | refine splF ?_ | refine splNot ?_
         | ((first | refine splIn ?_ ?_ | refine splD ?_ ?_ | refine splE ?_ ?_ | refine splNE ?_ ?_) <;> intro hc <;> first | (exfalso; omega) | (exfalso; dsimp only at hc; omega) | skip)
       all_goals first | (exfalso; omega) | skip
       refine loopN 14 (fun j : Nat => [(0, .v (.func (.yield lp) #[] #[])), (1, .ptr 8 0), (2, .ptr 9 0), (5, .ptr 11 0), (6, .v (iv E.length)), (7, .v (iv (s1 + (j : Nat))))]) (fun j => (0, .cells [.v (iv nd), .v (iv shift), .v (iv size), .v (.slice (some ta) T.length tc), .v (.slice lo L.length lc)] 35) :: (1, .mix 2 T.length 1 [] (rowX (rwV nd T.length D) ((D.length : Int).toNat * ti168.size) (.os 6 7 nd)) 168) :: (3, .cells [.v (iv nd), .v (iv shift), .v (iv size), .v (.slice (some ta) T.length tc), .v (.slice lo L.length lc), .os 1 2 T.length, .v Value.nilFunc, .v Value.nilFunc] 122) :: (4, .cells [.ptr 3 0] 114) :: (5, .cells [.v (iv D.length)] 3) :: (6, .mix 7 nd 1 [] (rowX (lsV (ALO (Tr.d ⟨(nd : Int), shift, size, some ta, tc, T, lo, lc, L⟩) D.length) nd E) E.length (oSV 12 13 (ALp (Tr.d ⟨(nd : Int), shift, size, some ta, tc, T, lo, lc, L⟩) D.length E.length j))) 28) :: (8, .cells [.v (iv nd), .v (iv shift), .v (iv size), .v (.slice (some ta) T.length tc), .v (.slice lo L.length lc)] 35) :: (9, .cells [.v (iv D.length)] 3) :: (10, .cells [.v (iv 0)] 3) :: (11, .cells [.v (iv s1), .v (iv s2)] 55) :: oM 12 13 3 (slF D.length E.length) 96 (ALp (Tr.d ⟨(nd : Int), shift, size, some ta, tc, T, lo, lc, L⟩) D.length E.length j)) (fun j => j ≤ N) (fun j => N - j) 0 (Nat.zero_le _) ⟨rfl, rfl, rfl, rfl, rfl, by rw [Int.natCast_zero, Int.add_zero]; rfl, trivial⟩ ⟨rfl, rfl, rfl, rfl, rfl, by (show _ = some (Blk.mix 7 nd 1 [] (rowX _ _ (.v (.slice none 0 0))) 28)); rw [rowX_self (lsV_at hlt)]; rfl, rfl, rfl, rfl, rfl, trivial⟩
        (fun j _ => by
         cases (ALp (Tr.d ⟨(nd : Int), shift, size, some ta, tc, T, lo, lc, L⟩) D.length E.length j) with
         | nil => exact ⟨rfl, by simp only [mB, Blk.lt, ltsX (show SV.lt 14 (.os 6 7 nd) = true from rfl), ltsX (show SV.lt 14 (oSV 12 13 ([] : List Nat)) = true from rfl)]; rfl⟩
         | cons c C => exact ⟨rfl, by simp only [mB, Blk.lt, ltsX (show SV.lt 14 (.os 6 7 nd) = true from rfl), ltsX (show SV.lt 14 (oSV 12 13 (c :: C)) = true from rfl)]; rfl⟩) ?_
       intro j hj
       rcases Nat.lt_or_ge j N with hjN | hjN
       · have hCn := hAs j
         obtain ⟨lN, hlN⟩ : ∃ lN : Nat, ((E.length : Int) + (s1 + (j : Int)) - 1) = lN := ⟨(((E.length : Int) + (s1 + (j : Int)) - 1)).toNat, by omega⟩
         have h115 := fun w' hb => alone_ok ⟨(nd : Int), shift, size, some ta, tc, T, lo, lc, L⟩ D.length E.length ((E.length : Int) + (s1 + (j : Int)) - 1) w' (h.below hb) hn ⟨by omega, by omega⟩
         have hba : decide (fltO (Tr.d ⟨(nd : Int), shift, size, some ta, tc, T, lo, lc, L⟩) [((D.length : Int), (E.length : Int), ((E.length : Int) + (s1 + (j : Int)) - 1))] 0 D.length E.length ((E.length : Int) + (s1 + (j : Int)) - 1) 4 = 0) = aloB (Tr.d ⟨(nd : Int), shift, size, some ta, tc, T, lo, lc, L⟩) D.length E.length ((E.length : Int) + (s1 + (j : Int)) - 1) := rfl
         obtain ⟨b, hb⟩ : ∃ b, aloB (Tr.d ⟨(nd : Int), shift, size, some ta, tc, T, lo, lc, L⟩) D.length E.length ((E.length : Int) + (s1 + (j : Int)) - 1) = b := ⟨_, rfl⟩
         rw [hb] at hCn hba
         simp only [hba] at h115
         have hsj : s1 + ((j + 1 : Nat) : Int) = s1 + (j : Int) + 1 := by omega
         have hCl := ALp_len (Tr.d ⟨(nd : Int), shift, size, some ta, tc, T, lo, lc, L⟩) D.length E.length j
         generalize (ALp (Tr.d ⟨(nd : Int), shift, size, some ta, tc, T, lo, lc, L⟩) D.length E.length j) = C at *
         cases b with
         | false =>
          rw [if_neg (by decide)] at hCn
          cases C with
          | nil =>
           repeat'
            conv => whnf
            first
             | refine zA ?_ | refine zB ?_ | refine zC ?_ | refine zD ?_ | refine zE ?_ | refine zF ?_ | refine zG ?_ | refine zH ?_ | refine zJ ?_ | refine zI ?_ | refine splT ?_ | refine splF ?_ | refine splNot ?_
             | ((first | refine splIn ?_ ?_ | refine splD ?_ ?_ | refine splE ?_ ?_ | refine splNE ?_ ?_) <;> intro hc <;> first | (exfalso; omega) | (exfalso; dsimp only at hc; omega) | skip)
             | ((with_reducible show CallEv _ _ 115 _ _ _ _ _); refine callE (k := 115) (fun β w' hbw => h115 w' hbw.1.1) ?_)
           all_goals first | (exfalso; omega) | exact ⟨j + 1, by omega, by omega, Ent.weak rfl ⟨rfl, rfl, rfl, rfl, rfl, by rw [hsj]; rfl, trivial⟩ (by rw [hCn]; exact ⟨rfl, rfl, rfl, rfl, rfl, rfl, rfl, rfl, rfl, rfl, trivial⟩) fun _ h => h⟩
          | cons c C =>
           repeat'
            conv => whnf
            first
             | refine zA ?_ | refine zB ?_ | refine zC ?_ | refine zD ?_ | refine zE ?_ | refine zF ?_ | refine zG ?_ | refine zH ?_ | refine zJ ?_ | refine zI ?_ | refine splT ?_ | refine splF ?_ | refine splNot ?_
             | ((first | refine splIn ?_ ?_ | refine splD ?_ ?_ | refine splE ?_ ?_ | refine splNE ?_ ?_) <;> intro hc <;> first | (exfalso; omega) | (exfalso; dsimp only at hc; omega) | skip)
             | ((with_reducible show CallEv _ _ 115 _ _ _ _ _); refine callE (k := 115) (fun β w' hbw => h115 w' hbw.1.1) ?_)
           all_goals first | (exfalso; omega) | exact ⟨j + 1, by omega, by omega, Ent.weak rfl ⟨rfl, rfl, rfl, rfl, rfl, by rw [hsj]; rfl, trivial⟩ (by rw [hCn]; exact ⟨rfl, rfl, rfl, rfl, rfl, rfl, rfl, rfl, rfl, rfl, rfl, trivial⟩) fun _ h => h⟩
         | true =>
          rw [if_pos rfl] at hCn
          cases C with
          | nil =>
           have hlt0 : (((E.length : Int) + (s1 + (j : Int)) - 1)).toNat = lN := by omega
           rw [hlt0] at hCn
           repeat'
            conv => whnf
            first
             | refine zA ?_ | refine zB ?_ | refine zC ?_ | refine zD ?_ | refine zE ?_ | refine zF ?_ | refine zG ?_ | refine zH ?_ | refine zJ ?_ | refine zI ?_ | refine splT ?_ | refine splF ?_ | refine splNot ?_
             | ((first | refine splIn ?_ ?_ | refine splD ?_ ?_ | refine splE ?_ ?_ | refine splNE ?_ ?_) <;> intro hc <;> first | (exfalso; omega) | (exfalso; dsimp only at hc; omega) | skip)
             | ((with_reducible show CallEv _ _ 115 _ _ _ _ _); refine callE (k := 115) (fun β w' hbw => h115 w' hbw.1.1) ?_)
             | refine And.intro (a := (_ : List _) = [] ∧ (_ : List _) = []) ⟨rfl, rfl⟩ ?_
             | refine yield_inline env mixed 0 2000 [3, 4] [0, 1, 2, 5, 6, 7, 41] rfl rfl rfl rfl rfl rfl rfl ?_
             | refine vc_eq env hasg ?_
             | refine vc_eq env hbdy ?_
             | refine nilE rfl rfl ?_
             | refine Tx.ldM env (.os 6 7 nd) rfl rfl rfl rfl rfl hsT rfl ?_
             | refine Tx.ldM env (.v (.slice none 0 0)) rfl rfl rfl rfl rfl (by rw [e28]; exact rowX_at (by rw [hEl]; omega)) rfl ?_
             | refine Tx.stM env (.os 17 18 (0 + 1)) rfl rfl rfl rfl rfl rfl rfl (by rw [e28, List.length_set, List.length_map, hEl]; omega) rfl rfl (ltsX rfl) rfl ?_
           all_goals first | (exfalso; omega) | exact ⟨j + 1, by omega, by omega, Ent.ren (rho [(12, 17), (13, 18)]) rfl (by rw [hCn]; rfl) ⟨rfl, rfl, rfl, rfl, rfl, by rw [hsj]; rfl, trivial⟩ (by
            rw [hCn]
            exact ⟨rfl, by rw [ren1]; rfl, rfl, rfl, rfl, by (
             show _ = some (Blk.ren _ (Blk.mix 7 nd 1 [] (rowX (lsV (ALO (Tr.d ⟨(nd : Int), shift, size, some ta, tc, T, lo, lc, L⟩) D.length) nd E) E.length (oSV 12 13 [lN])) 28))
             rw [ren6]
             show some (Blk.mix 7 nd 1 [] ((rowX (lsV (ALO (Tr.d ⟨(nd : Int), shift, size, some ta, tc, T, lo, lc, L⟩) D.length) nd E) E.length (oSV 12 13 ([] : List Nat))).set ((E.length : Int).toNat * ti28.size) (.os 17 18 (0 + 1))) 28) = _
             rw [e28, rowX_set]; rfl), rfl, rfl, rfl, rfl, by (
             show some (Blk.own 18 (0 + 1) 3 ([] ++ [iv D.length, iv E.length, iv ((E.length : Int) + (s1 + (j : Int)) - 1)]) 96) = _
             rw [hlN]; rfl), trivial⟩) fun _ h => h⟩
          | cons c C =>
           have hlt0 : (((E.length : Int) + (s1 + (j : Int)) - 1)).toNat = lN := by omega
           rw [hlt0] at hCn
           simp only [List.length_cons] at hCl
           repeat'
            conv => whnf
            first
             | refine zA ?_ | refine zB ?_ | refine zC ?_ | refine zD ?_ | refine zE ?_ | refine zF ?_ | refine zG ?_ | refine zH ?_ | refine zJ ?_ | refine zI ?_ | refine splT ?_ | refine splF ?_ | refine splNot ?_
             | ((first | refine splIn ?_ ?_ | refine splD ?_ ?_ | refine splE ?_ ?_ | refine splNE ?_ ?_) <;> intro hc <;> first | (exfalso; omega) | (exfalso; dsimp only at hc; omega) | skip)
             | ((with_reducible show CallEv _ _ 115 _ _ _ _ _); refine callE (k := 115) (fun β w' hbw => h115 w' hbw.1.1) ?_)
             | refine And.intro (a := (_ : List _) = [] ∧ (_ : List _) = []) ⟨rfl, rfl⟩ ?_
             | refine yield_inline env mixed 0 2000 [3, 4] [0, 1, 2, 5, 6, 7, 41] rfl rfl rfl rfl rfl rfl rfl ?_
             | refine vc_eq env hasg ?_
             | refine vc_eq env hbdy ?_
             | refine nilE rfl rfl ?_
             | refine Tx.ldM env (.os 6 7 nd) rfl rfl rfl rfl rfl hsT rfl ?_
             | refine Tx.ldM env (.os 12 13 (C.length + 1)) rfl rfl rfl rfl rfl (by rw [e28]; exact rowX_at (by rw [hEl]; omega)) rfl ?_
             | refine Tx.stM env (.os 17 18 (C.length + 1 + 1)) rfl rfl rfl rfl rfl rfl rfl (by rw [e28, List.length_set, List.length_map, hEl]; omega) rfl rfl (ltsX rfl) rfl ?_
           all_goals first | (exfalso; omega) | exact ⟨j + 1, by omega, by omega, Ent.ren (rho [(12, 17), (13, 18)]) rfl (by rw [hCn]; rfl) ⟨rfl, rfl, rfl, rfl, rfl, by rw [hsj]; rfl, trivial⟩ (by
            rw [hCn]
            exact ⟨rfl, by rw [ren1]; rfl, rfl, rfl, rfl, by (
             show _ = some (Blk.ren _ (Blk.mix 7 nd 1 [] (rowX (lsV (ALO (Tr.d ⟨(nd : Int), shift, size, some ta, tc, T, lo, lc, L⟩) D.length) nd E) E.length (oSV 12 13 (c :: (C ++ [lN])))) 28))
             rw [ren6, List.length_append]
             show some (Blk.mix 7 nd 1 [] ((rowX (lsV (ALO (Tr.d ⟨(nd : Int), shift, size, some ta, tc, T, lo, lc, L⟩) D.length) nd E) E.length (oSV 12 13 (c :: C))).set ((E.length : Int).toNat * ti28.size) (.os 17 18 (C.length + 1 + 1))) 28) = _
             rw [e28, rowX_set]; rfl), rfl, rfl, rfl, rfl, by (
             show some (Blk.own 18 (C.length + 1 + 1) 3 (((c :: C).flatMap (slF D.length E.length)) ++ [iv D.length, iv E.length, iv ((E.length : Int) + (s1 + (j : Int)) - 1)]) 96) = some (Blk.own 18 ((C ++ [lN]).length + 1) 3 ((c :: C ++ [lN]).flatMap (slF D.length E.length)) 96)
             rw [hlN, List.length_append, List.flatMap_append]; rfl), trivial⟩) fun _ h => h⟩
       · obtain rfl : j = N := by omega
         rw [← hAE]
         have hmx : (fun d => (ALO (Tr.d ⟨(nd : Int), shift, size, some ta, tc, T, lo, lc, L⟩) D.length) d) = (ALO (Tr.d ⟨(nd : Int), shift, size, some ta, tc, T, lo, lc, L⟩) D.length) := rfl
         cases hC : (ALO (Tr.d ⟨(nd : Int), shift, size, some ta, tc, T, lo, lc, L⟩) D.length) E.length with
         | nil =>
          repeat'
           conv => whnf
           first
            | refine zA ?_ | refine zB ?_ | refine zC ?_ | refine zD ?_ | refine zE ?_ | refine zF ?_ | refine zG ?_ | refine zH ?_ | refine zJ ?_ | refine zI ?_ | refine splT ?_ | refine splF ?_ | refine splNot ?_
            | ((first | refine splIn ?_ ?_ | refine splD ?_ ?_ | refine splE ?_ ?_ | refine splNE ?_ ?_) <;> intro hc <;> first | (exfalso; omega) | (exfalso; dsimp only at hc; omega) | skip)
          all_goals first | (exfalso; omega) | skip
          refine Dis.mk4 (w0 := w) id [] ⟨fun β => rfl, fun β => rfl, fun β => rfl, fun β => rfl, fun β => rfl, trivial⟩ (fun i hi => by cases hi) (fun w' h => h.1.1) (fun β w1 hok hw1 hge => ⟨E ++ [(none, 0)], ⟨by simp; omega, by simp; omega⟩, ⟨⟨_, rfl, rfl⟩, ⟨_, rfl, rfl⟩, ⟨_, rfl, rfl⟩, ⟨_, rfl, rfl⟩, ⟨_, rfl, by rw [List.length_append, Int.natCast_add]; rfl⟩, trivial⟩,
           ⟨⟨rfl, _, rfl, fun _ => rfl, fun w2 y hy => hy⟩, ⟨rfl, _, rfl, fun _ => rfl, fun w2 y hy => hy⟩, ⟨rfl, _, rfl, fun _ => rfl, fun w2 y hy => hy⟩, ⟨rfl, _, rfl, fun _ => rfl, fun w2 y hy => hy⟩, ⟨rfl, _, rfl, fun _ => rfl, fun w2 y hy => hy⟩, ⟨rfl, _, rfl, fun _ => rfl, fun w2 y hy => ls_conv hlt (by rw [hC]; rfl) hy⟩, ⟨rfl, _, rfl, fun _ => rfl, fun w2 y hy => hy⟩, ⟨rfl, _, rfl, fun _ => rfl, fun w2 y hy => hy⟩, ⟨rfl, _, rfl, fun _ => rfl, fun w2 y hy => hy⟩, ⟨rfl, _, rfl, fun _ => rfl, fun w2 y hy => hy⟩, trivial⟩, rfl, fun w2 hw2 _ => ⟨hw2.1, ls_snoc hw2.2 (.inl ⟨rfl, hC⟩)⟩⟩)
         | cons c C =>
          repeat'
           conv => whnf
           first
            | refine zA ?_ | refine zB ?_ | refine zC ?_ | refine zD ?_ | refine zE ?_ | refine zF ?_ | refine zG ?_ | refine zH ?_ | refine zJ ?_ | refine zI ?_ | refine splT ?_ | refine splF ?_ | refine splNot ?_
            | ((first | refine splIn ?_ ?_ | refine splD ?_ ?_ | refine splE ?_ ?_ | refine splNE ?_ ?_) <;> intro hc <;> first | (exfalso; omega) | (exfalso; dsimp only at hc; omega) | skip)
          all_goals first | (exfalso; omega) | skip
          refine Dis.mk4 (w0 := w) id [12] ⟨fun β => rfl, fun β => rfl, fun β => rfl, fun β => rfl, fun β => rfl, trivial⟩ (fun i hi => by rw [List.mem_singleton] at hi; subst hi; exact ⟨_, rfl, rfl⟩) (fun w' h => h.1.1) (fun β w1 hok hw1 hge => ⟨E ++ [(some ⟨β 12, 0, none⟩, β 13)], ⟨by simp; omega, by simp; omega⟩, ⟨⟨_, rfl, rfl⟩, ⟨_, rfl, rfl⟩, ⟨_, rfl, rfl⟩, ⟨_, rfl, rfl⟩, ⟨_, rfl, by rw [List.length_append, Int.natCast_add]; rfl⟩, trivial⟩,
           ⟨⟨rfl, _, rfl, fun _ => rfl, fun w2 y hy => hy⟩, ⟨rfl, _, rfl, fun _ => rfl, fun w2 y hy => hy⟩, ⟨rfl, _, rfl, fun _ => rfl, fun w2 y hy => hy⟩, ⟨rfl, _, rfl, fun _ => rfl, fun w2 y hy => hy⟩, ⟨rfl, _, rfl, fun _ => rfl, fun w2 y hy => hy⟩, ⟨rfl, _, rfl, fun _ => rfl, fun w2 y hy => ls_conv hlt (by rw [hC]; rfl) hy⟩, ⟨rfl, _, rfl, fun _ => rfl, fun w2 y hy => hy⟩, ⟨rfl, _, rfl, fun _ => rfl, fun w2 y hy => hy⟩, ⟨rfl, _, rfl, fun _ => rfl, fun w2 y hy => hy⟩, ⟨rfl, _, rfl, fun _ => rfl, fun w2 y hy => hy⟩, trivial⟩, rfl, fun w2 hw2 hLo => ⟨hw2.1, ls_snoc hw2.2 (.inr ⟨β 12, rfl, hge 12 _ rfl rfl, by rw [hC]; exact hLo 12 (by simp) _ rfl⟩)⟩⟩)
     · have hEn : E.length = nd := by omega
       repeat'
        conv => whnf
        first
         | refine zA ?_ | refine zB ?_ | refine zC ?_ | refine zD ?_ | refine zE ?_ | refine zF ?_ | refine zG ?_ | refine zH ?_ | refine zJ ?_ | refine zI ?_ | refine splT ?_ | refine splF ?_ | refine splNot ?_
         | ((first | refine splIn ?_ ?_ | refine splD ?_ ?_ | refine splE ?_ ?_ | refine splNE ?_ ?_) <;> intro hc <;> first | (exfalso; omega) | (exfalso; dsimp only at hc; omega) | skip)
       all_goals first | (exfalso; omega) | skip
       refine Dis.mk3 (w0 := w) id [6] rfl (fun i hi => by rw [List.mem_singleton] at hi; subst hi; exact ⟨_, rfl, rfl⟩) (fun w' h => h.1.1) (fun β w1 hok hw1 hge => ⟨D ++ [⟨β 6, β 7, E⟩], ⟨by simp; omega, by simp; omega⟩, ⟨⟨_, rfl, rfl⟩, ⟨_, rfl, rfl⟩, ⟨_, rfl, rfl⟩, ⟨_, rfl, by rw [List.length_append, Int.natCast_add]; rfl⟩, trivial⟩, ⟨⟨rfl, _, rfl, fun _ => rfl, fun w2 y hy => hy⟩, ⟨rfl, _, rfl, fun _ => rfl, fun w2 y hy => tb_conv hkl rfl rfl hy⟩, ⟨rfl, _, rfl, fun _ => rfl, fun w2 y hy => hy⟩, ⟨rfl, _, rfl, fun _ => rfl, fun w2 y hy => hy⟩, trivial⟩, rfl, fun w2 hw2 hLo => ⟨hw2.1.1, hw2.1.2.snoc ⟨hge 6 _ rfl rfl, hEn, ?_, hw2.2⟩⟩⟩)
       have := hLo 6 (by simp) _ rfl
       simp only [Blk.ok, cs_v] at this
       exact this
 · skip
   repeat'
    conv => whnf
    first
     | refine zA ?_ | refine zB ?_ | refine zC ?_ | refine zD ?_ | refine zE ?_ | refine zF ?_ | refine zG ?_ | refine zH ?_ | refine zJ ?_ | refine zI ?_ | refine splT ?_ | refine splF ?_ | refine splNot ?_
     | ((first | refine splIn ?_ ?_ | refine splD ?_ ?_ | refine splE ?_ ?_ | refine splNE ?_ ?_) <;> intro hc <;> first | (exfalso; omega) | (exfalso; dsimp only at hc; omega) | skip)
     | ((with_reducible show OpEvS _ ⟨some 61, _, _, _, _, _⟩ _ _ _ _); refine mkMapS (k := 118) (stD (hmO (Tr.d ⟨(nd : Int), shift, size, some ta, tc, T, lo, lc, L⟩) (ALO (Tr.d ⟨(nd : Int), shift, size, some ta, tc, T, lo, lc, L⟩)))) ?_; intro b1)
     | ((with_reducible show OpEvS _ ⟨some 62, _, _, _, _, _⟩ _ _ _ _); refine mkMapS (k := 118) (stD (bgO (Tr.d ⟨(nd : Int), shift, size, some ta, tc, T, lo, lc, L⟩) (ALO (Tr.d ⟨(nd : Int), shift, size, some ta, tc, T, lo, lc, L⟩)))) ?_; intro b2)
     | refine nilE rfl rfl ?_
   all_goals first | (exfalso; omega) | skip
   have hDl : D.length = T.length := by omega
   refine ⟨fun w' h => h.1, fun β w' hB hB2 hblk hinj => ?_⟩
   let γ : Nat → Nat := fun i => match i with | 0 => β 4 | 1 => β 7 | 2 => β 3 | 3 => β 8 | 4 => β 5 | 5 => β 6 | _ => 0
   have hT1 : w'.ownsRow 0 168 1 (.slice (some ⟨β 1, 0, none⟩) T.length (β 2)) T.length (rwV nd T.length D) := by
    have := (hblk 1 _ rfl rfl).2
    simp only [Blk.ok, cs_v] at this
    exact this
   have hty : ∀ i, i < 6 → ∀ cur ty, w'.heap[γ i]? = some (.cells cur ty (0, 0)) → ty = 114 ∨ ty = 169 ∨ ty = 122 := fun i hi cur ty hc => by
    rcases (by omega : i = 0 ∨ i = 1 ∨ i = 2 ∨ i = 3 ∨ i = 4 ∨ i = 5) with rfl | rfl | rfl | rfl | rfl | rfl
    · have h1 : w'.heap[β 4]? = _ := (hblk 4 _ rfl rfl).2
      have h2 : w'.heap[β 4]? = _ := hc
      rw [h1] at h2; cases h2; exact .inl rfl
    · have h1 : w'.heap[β 7]? = _ := (hblk 7 _ rfl rfl).2
      have h2 : w'.heap[β 7]? = _ := hc
      rw [h1] at h2; cases h2; exact .inr (.inl rfl)
    · have h1 : w'.heap[β 3]? = _ := (hblk 3 _ rfl rfl).2
      have h2 : w'.heap[β 3]? = _ := hc
      rw [h1] at h2; cases h2; exact .inr (.inr rfl)
    · have h1 : w'.heap[β 8]? = _ := (hblk 8 _ rfl rfl).2
      have h2 : w'.heap[β 8]? = _ := hc
      rw [h1] at h2; cases h2; exact .inr (.inl rfl)
    · have h1 := (hblk 5 _ rfl rfl).2
      have h2 : w'.heap[β 5]? = _ := hc
      obtain ⟨h3, o, h4, h5, h6⟩ := h1
      rw [h2, Option.some.injEq] at h4
      subst h4
      exact h6.elim
    · have h1 := (hblk 6 _ rfl rfl).2
      have h2 : w'.heap[β 6]? = _ := hc
      obtain ⟨h3, o, h4, h5, h6⟩ := h1
      rw [h2, Option.some.injEq] at h4
      subst h4
      exact h6.elim
   have hij : ∀ i, i < 6 → γ i ≠ β 1 := fun i hi => by
    rcases (by omega : i = 0 ∨ i = 1 ∨ i = 2 ∨ i = 3 ∨ i = 4 ∨ i = 5) with rfl | rfl | rfl | rfl | rfl | rfl <;> exact hinj _ 1 _ _ rfl rfl rfl rfl (by decide)
   refine ⟨alp (β 1) D, T.length, β 2, b1, b2, γ, rfl, rfl, hB2, ⟨fun i b hi => ?_, fun i j hi hj hne => ?_⟩, fun i hi => ?_, fun w2 hs hk => ?_⟩
   · have hm := lk_mem hi
     simp only [MB, List.mem_cons, Prod.mk.injEq, List.not_mem_nil, or_false] at hm
     rcases hm with ⟨rfl, rfl⟩ | ⟨rfl, rfl⟩ | ⟨rfl, rfl⟩ | ⟨rfl, rfl⟩ | ⟨rfl, rfl⟩ | ⟨rfl, rfl⟩
     · exact (hblk 5 _ rfl rfl).2
     · exact (hblk 6 _ rfl rfl).2
     · exact (hblk 4 _ rfl rfl).2
     · exact (hblk 7 _ rfl rfl).2
     · exact (hblk 3 _ rfl rfl).2
     · exact (hblk 8 _ rfl rfl).2
   · rcases (by omega : i = 0 ∨ i = 1 ∨ i = 2 ∨ i = 3 ∨ i = 4 ∨ i = 5) with rfl | rfl | rfl | rfl | rfl | rfl <;> rcases (by omega : j = 0 ∨ j = 1 ∨ j = 2 ∨ j = 3 ∨ j = 4 ∨ j = 5) with rfl | rfl | rfl | rfl | rfl | rfl <;> first | exact absurd rfl hne | exact hinj _ _ _ _ rfl rfl rfl rfl (by decide)
   · rcases (by omega : i = 0 ∨ i = 1 ∨ i = 2 ∨ i = 3 ∨ i = 4 ∨ i = 5) with rfl | rfl | rfl | rfl | rfl | rfl <;> exact (hblk _ _ rfl rfl).1
   · have hx : (Tr.d ⟨(nd : Int), shift, size, some ta, tc, T, lo, lc, L⟩).T.length = T.length := List.length_map ..
     have hd' : (Tr.d ⟨(nd : Int), shift, size, some ta, tc, T, lo, lc, L⟩).days.toNat = nd := Int.toNat_natCast nd
     refine al_in (m := w.heap.size) (c := β 2) (by rw [hx]; exact hDl) ?_ (TbOk.keep hB.2 fun c cur ty h1 h2 h3 => hk c h1 (Array.getElem?_eq_some_iff.1 h2).1 fun i hi e => ?_)
     · rw [hx, hd']
       refine own_keep hT1 (hk _ (hblk 1 _ rfl rfl).1 ?_ fun i hi => hij i hi)
       obtain ⟨cur, hc⟩ := own_heap hT1
       exact (Array.getElem?_eq_some_iff.1 hc).1
     · subst e
       rcases hty i hi cur ty h2 with rfl | rfl | rfl <;> rcases h3 with h3 | h3 <;> exact absurd h3 (by decide)
end Go.Proofs.Ythfabodamhdhaaa
