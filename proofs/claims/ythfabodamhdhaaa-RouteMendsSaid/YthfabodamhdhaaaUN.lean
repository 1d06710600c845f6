/- The reference's Replace: what it returns. -/
import Derived.Test.YthfabodamhdhaaaUM
import Derived.Test.YthfabodamhdhaaaTK
import Derived.Test.YthfabodamhdhaaaS3
namespace Go.Proofs.Ythfabodamhdhaaa.Tx
open Go Go.RowKit
set_option linter.unusedSimpArgs false
set_option linter.unusedVariables false
theorem slLn {P : Program} (T : Env P) {dst : Option Tmp} {ty : TypeId} {pos : String} {after : Array Edge} {gd : Option (Nat × Bool)} {gs : List Nat} {σ : Sg} {K : Ef → Prop} {KF : Option KT} {t e n c z : Nat} {x lo : Operand} {ad : Addr} {k : IntKind}
 {sz : Nat} {zr : List Value} {by_ : Nat} {ti : TI} (A : Addr) (m : Nat) {zi : Int} (hx : gv σ x = some (.v (.slice (some ad) n c))) (hl : gv σ lo = some (.v (.int k zi))) (ht : T.ty t = some ⟨sz, zr, by_, .slice e⟩) (he : T.ty e = some ti) (hzi : zi = z) (hz : m + z = n) (hc : n ≤ c)
 (hA : A = if c = z then ad else ad.add (z * ti.size))
 (hB : efB σ ⟨.v (.slice (some A) m (c - z)), [], [], gs ++ (os x ++ os lo), []⟩ = true) (hK : K ⟨.v (.slice (some A) m (c - z)), [], [], gs ++ (os x ++ os lo), []⟩) : OpEvS P ⟨dst, .slice t x (some lo) none none, ty, pos, after, gd⟩ gs σ K KF := by
 refine .mk _ hB (fun k hk => by simp [hk]) rfl (runOK_pure fun β a w hss => ?_) hK
 have e1 := gv_eval hss hx (fun k hk => by simp [hk])
 have e2 := gv_eval hss hl (fun k hk => by simp [hk])
 have hu := under_slice (T.tok t _ ht) rfl
 have hel : P.elem t = e := by simp [Program.elem, hu]
 have hu' : P.underlying t = some (.slice (P.elem t)) := by rw [hel]; exact hu
 have hsz := (T.tok e ti he).run_sizeOf w
 have hm : m = n - z := by omega
 subst hm hzi
 simp only [execOp, Option.map_some, Option.map_none, e1, e2, SV.c, Sem.run_bind, Sem.run_pure, Result.andThen_ok]
 rw [run_sliceAt_slice w t _ _ _ _ hu', run_slice_l w t _ _ _ hu' _ _ (by omega) (by omega), hel, hsz]
 simp only [Result.andThen_ok, sliced, Int.toNat_natCast, Option.map_some]
 subst hA
 split <;> rfl
end Go.Proofs.Ythfabodamhdhaaa.Tx
namespace Go.Proofs.Ythfabodamhdhaaa
open Go Tx Go.RowKit
set_option linter.unusedSimpArgs false
set_option linter.unusedVariables false
theorem sp_td (S : List (Int × Int × Int)) : ∀ j, (S.take j).flatMap spF = (S.flatMap spF).take (j * 3) ∧ (S.drop j).flatMap spF = (S.flatMap spF).drop (j * 3) := by
 induction S with
 | nil => intro j; simp
 | cons a S ih =>
  intro j
  cases j with
  | zero => simp
  | succ j =>
   obtain ⟨i1, i2⟩ := ih j
   rw [List.take_succ_cons, List.drop_succ_cons, List.flatMap_cons, List.flatMap_cons, i1, i2, show (j + 1) * 3 = j * 3 + 1 + 1 + 1 from by omega]
   constructor
   · simp only [spF, List.cons_append, List.nil_append, List.take_succ_cons]
   · simp only [spF, List.cons_append, List.nil_append, List.drop_succ_cons]
theorem ext_take {S : List (Int × Int × Int)} {ad : Addr} {c k : Nat} {w : World} (h : Rd 3 spF (.slice (some ad) S.length c) S w) : ∀ j v, ((S.take k).flatMap spF)[j]? = some v → w.cell? (ad.add j) = some v := fun j v hj => by
 rw [(sp_td S k).1, List.getElem?_take] at hj
 split at hj
 · exact Rd.ext (f := spF) (sz := 3) (fun _ => rfl) h j v hj
 · cases hj
theorem ext_drop {S : List (Int × Int × Int)} {ad A : Addr} {c k : Nat} {w : World} (h : Rd 3 spF (.slice (some ad) S.length c) S w) (hc : S.length ≤ c) (hA : A = if c = k then ad else ad.add (k * 3)) : ∀ j v, ((S.drop k).flatMap spF)[j]? = some v → w.cell? (A.add j) = some v := fun j v hj => by
 have hl := (List.getElem?_eq_some_iff.1 hj).1
 rw [spl3, List.length_drop] at hl
 rw [(sp_td S k).2, List.getElem?_drop] at hj
 rw [hA, if_neg (by omega), Addr.add_add]
 exact Rd.ext (f := spF) (sz := 3) (fun _ => rfl) h _ v hj
theorem e_nil (w : World) (ad : Addr) : ∀ (j : Nat) (v : Value), ([] : List Value)[j]? = some v → w.cell? (ad.add j) = some v := fun j v h => by simp at h
theorem o_nil : ∀ v ∈ ([] : List Value), v.oneCell' = true := fun v h => by cases h
theorem wo_own {w : World} {β : Nat → Nat} {q qm n m : Nat} {E : List (Int × Int × Int)} {X : List Value} {w2 : World} (hge : w.heap.size ≤ β q) (hm : m = n) (hlen : E.length = n) (hX : X = E.flatMap spF) (h : (Blk.own qm m 3 X 89).ok β w2 (β q)) :
 St w.heap.size (fun w2 => Rd 3 spF (sV n (some ⟨β q, 0, none⟩, β qm)) E w2 ∧ n ≤ β qm) w2 := fun w3 hk => by
 subst hm hX
 have h' := Blk.keep rfl h hge hk
 have h2 : w3.ownsRow 0 89 3 (.slice (some ⟨β q, 0, none⟩) m (β qm)) m (E.flatMap spF) := h'
 refine ⟨Rd.of_owns (sz := 3) (f := spF) (fun _ => rfl) rfl hlen.symm h2, ?_⟩
 rcases h2.2 with ⟨h', _⟩ | ⟨g, cap, cur, q0, q1, q2, q3, _⟩
 · cases h'
 · simp only [Value.slice.injEq] at q0
   obtain ⟨_, _, q0⟩ := q0
   omega
def trQ (r : Fnd) (S : List (Int × Int × Int)) (P : Int) : Fnd := match r with | none => some (S, P) | some b => if b.2 < P then some (S, P) else some b
theorem trQ_of {x : To} {r : Fnd} {S : List (Int × Int × Int)} (h : fsO x S = []) : trR x r S = trQ r S (pfO x S) := by unfold trR trQ; rw [if_pos h]; cases r <;> rfl
theorem fs_own9 {w : World} {β : Nat → Nat} {q qm n : Nat} {S : List (Int × Int × Int)} {m : Int} {w2 : World} (hge : w.heap.size ≤ β q) (hlen : S.length = n) (h : (Blk.own qm (0 + n) 3 (S.flatMap spF) 89).ok β w2 (β q)) : St w.heap.size (FS (some (S, m)) (some ⟨β q, 0, none⟩, β qm)) w2 := by
 subst hlen
 exact (wo_own (n := S.length) hge (Nat.zero_add _) rfl rfl h).imp fun w3 h3 => h3
set_option maxHeartbeats 4000000 in
set_option maxRecDepth 100000 in
theorem Rr2 (days shift size : Int) (to : Option Addr) (tc : Nat) (T : List Tn) (lo : Option Addr) (lc : Nat) (L : List Lr) (x : Tr) (ad : Addr) (c : Nat) (S : List (Int × Int × Int)) (k : Nat) (w : World) (h : TrIn x w) (hn : ToN x.d) (hS : SpIn (some ad) c S w) (hl : S.length ≤ 20) (hk : k < S.length) (hF : fsO x.d S = []) (hx : ⟨days, shift, size, to, tc, T, lo, lc, L⟩ = x)
 (h2 : ∀ y : Option Addr × Nat, VC Try.prog (rest 2 body47) ⟨103, [(1, .v (.slice (some ad) S.length c)), (2, .v (iv k)), (3, .ptr 0 0), (9, .v (sV (S.length - 1) y))], [(0, .cells (Tr.l ⟨days, shift, size, to, tc, T, lo, lc, L⟩) 25)], 1, fun w' => Below w.heap.size w w' ∧ St w.heap.size (fun w2 => Rd 3 spF (sV (S.length - 1) y) (S.eraseIdx k) w2 ∧ S.length - 1 ≤ y.2) w', z0⟩ (endΦ env Try.f47 fun s σ => (∀ w', σ.h w' → Below w.heap.size w w') ∧ ∀ β w', σ.h w' → (∀ i b, lk σ.m i = some b → b.live = true → St w.heap.size (fun w2 => b.ok β w2 (β i)) w') → ∃ y : Option Addr × Nat, s.c β = .tuple #[fvV (rpO (Tr.d ⟨days, shift, size, to, tc, T, lo, lc, L⟩) S k) y, iv (fvM (rpO (Tr.d ⟨days, shift, size, to, tc, T, lo, lc, L⟩) S k) - pfO (Tr.d ⟨days, shift, size, to, tc, T, lo, lc, L⟩) S), .bool ((rpO (Tr.d ⟨days, shift, size, to, tc, T, lo, lc, L⟩) S k)).isSome] ∧ St w.heap.size (FS (rpO (Tr.d ⟨days, shift, size, to, tc, T, lo, lc, L⟩) S k) y) w')) :
 VC Try.prog body47 ⟨103, slotsOf 0 ([.agg #[iv days, iv shift, iv size, .slice to T.length tc, .slice lo L.length lc], .slice (some ad) S.length c, iv k].map SV.v), [], 0, Below w.heap.size w, z0⟩ (endΦ env Try.f47 fun s σ => (∀ w', σ.h w' → Below w.heap.size w w') ∧ ∀ β w', σ.h w' → (∀ i b, lk σ.m i = some b → b.live = true → St w.heap.size (fun w2 => b.ok β w2 (β i)) w') → ∃ y : Option Addr × Nat, s.c β = .tuple #[fvV (rpO (Tr.d ⟨days, shift, size, to, tc, T, lo, lc, L⟩) S k) y, iv (fvM (rpO (Tr.d ⟨days, shift, size, to, tc, T, lo, lc, L⟩) S k) - pfO (Tr.d ⟨days, shift, size, to, tc, T, lo, lc, L⟩) S), .bool ((rpO (Tr.d ⟨days, shift, size, to, tc, T, lo, lc, L⟩) S k)).isSome] ∧ St w.heap.size (FS (rpO (Tr.d ⟨days, shift, size, to, tc, T, lo, lc, L⟩) S k) y) w') := by
 subst hx
 have hSc := hS.c
 have hE : (S.eraseIdx k).length = S.length - 1 := by rw [List.length_eraseIdx, if_pos hk]
 refine VC.cutD env mixed 2 1 (fun y : Option Addr × Nat => [(1, .v (.slice (some ad) S.length c)), (2, .v (iv k)), (3, .ptr 0 0), (9, .v (sV (S.length - 1) y))]) (fun y => [(0, .cells (Tr.l ⟨days, shift, size, to, tc, T, lo, lc, L⟩) 25)]) (fun y w' => Below w.heap.size w w' ∧ St w.heap.size (fun w2 => Rd 3 spF (sV (S.length - 1) y) (S.eraseIdx k) w2 ∧ S.length - 1 ≤ y.2) w') (fun _ => True) (fun y _ => ⟨rfl, rfl⟩) ?_ (fun y _ => h2 y)
 clear h2
 obtain ⟨A, hA⟩ : ∃ A : Addr, A = if c = k + 1 then ad else ad.add ((k + 1) * 3) := ⟨_, rfl⟩
 have x1 := fun (w' : World) (hb : Below w.heap.size w w') => ext_take (k := k) (hS.r.below hb)
 have x2 := fun (w' : World) (hb : Below w.heap.size w w') => ext_drop (k := k + 1) (hS.r.below hb) hSc hA
 have n1 : ((S.take k).flatMap spF).length = k * 3 := by rw [spl3, List.length_take]; omega
 have n2 : ((S.drop (k + 1)).flatMap spF).length = (S.length - (k + 1)) * 3 := by rw [spl3, List.length_drop]
 have o1 := sp1 (S.take k)
 have o2 := sp1 (S.drop (k + 1))
 have hX : (S.eraseIdx k).flatMap spF = (S.take k).flatMap spF ++ (S.drop (k + 1)).flatMap spF := by rw [List.eraseIdx_eq_take_drop_succ, List.flatMap_append]
 generalize (S.take k).flatMap spF = X1 at *
 generalize (S.drop (k + 1)).flatMap spF = X2 at *
 have hzi : (k : Int) + 1 = ((k + 1 : Nat) : Int) := rfl
 obtain ⟨m, hm⟩ : ∃ m, S.length - (k + 1) = m := ⟨_, rfl⟩
 rw [hm] at n2
 rcases Nat.eq_zero_or_pos k with hk0 | hk0
 · subst hk0
   rcases Nat.eq_zero_or_pos m with hm0 | hm0
   · subst hm0
     have hE0 : S.eraseIdx 0 = [] := List.length_eq_zero_iff.1 (by omega)
     repeat'
      conv => whnf
      first
       | refine zA ?_ | refine zB ?_ | refine zC ?_ | refine zD ?_ | refine zE ?_ | refine zF ?_ | refine zG ?_ | refine zH ?_ | refine zJ ?_ | refine zI ?_ | refine splT ?_ | refine splF ?_ | refine splNot ?_
       | ((first | refine splIn ?_ ?_ | refine splD ?_ ?_ | refine splE ?_ ?_ | refine splNE ?_ ?_) <;> intro hc <;> first | (exfalso; omega) | (exfalso; dsimp only at hc; omega) | skip)
       | refine slHi env rfl rfl rfl rfl (by omega) rfl ?_
       | refine slLn env A (0) rfl rfl rfl rfl hzi (by omega) (by omega) hA rfl ?_
       | refine Exists.intro (α := List Value) ([]) ⟨⟨rfl, fun w2 hw2 => e_nil w2 _, o_nil⟩, ?_⟩
     all_goals first | (exfalso; omega) | skip
     exact ⟨rfl, Dis.mk3 (w0 := w) id [] rfl (fun i hi => by cases hi) (fun w' h => h) (fun β w1 hok hw1 hge => ⟨(none, 0), trivial, ⟨⟨_, rfl, rfl⟩, ⟨_, rfl, rfl⟩, ⟨_, rfl, rfl⟩, ⟨_, rfl, by (show Value.slice none 0 0 = Value.slice none (S.length - 1) 0); rw [show S.length - 1 = 0 from by omega]⟩, trivial⟩, ⟨zM rfl rfl, trivial⟩, rfl, fun w2 hw2 hLo => ⟨hw2, fun w3 _ => ⟨by rw [hE0]; exact .inl ⟨by (show Value.slice none (S.length - 1) 0 = _); rw [show S.length - 1 = 0 from by omega], rfl⟩, by (show S.length - 1 ≤ 0); omega⟩⟩⟩)⟩
   · skip
     repeat'
      conv => whnf
      first
       | refine zA ?_ | refine zB ?_ | refine zC ?_ | refine zD ?_ | refine zE ?_ | refine zF ?_ | refine zG ?_ | refine zH ?_ | refine zJ ?_ | refine zI ?_ | refine splT ?_ | refine splF ?_ | refine splNot ?_
       | ((first | refine splIn ?_ ?_ | refine splD ?_ ?_ | refine splE ?_ ?_ | refine splNE ?_ ?_) <;> intro hc <;> first | (exfalso; omega) | (exfalso; dsimp only at hc; omega) | skip)
       | refine slHi env rfl rfl rfl rfl (by omega) rfl ?_
       | refine slLn env A (m) rfl rfl rfl rfl hzi (by omega) (by omega) hA rfl ?_
       | refine Exists.intro (α := List Value) ([]) ⟨⟨rfl, fun w2 hw2 => e_nil w2 _, o_nil⟩, ?_⟩
       | refine Exists.intro (α := List Value) (X2) ⟨⟨n2, fun w2 hw2 => x2 w2 hw2, o2⟩, ?_⟩
     all_goals first | (exfalso; omega) | skip
     exact ⟨rfl, Dis.mk3 (w0 := w) id [1] rfl (fun i hi => by rw [List.mem_singleton] at hi; subst hi; exact ⟨_, rfl, rfl⟩) (fun w' h => h) (fun β w1 hok hw1 hge => ⟨(some ⟨β 1, 0, none⟩, β 2), trivial, ⟨⟨_, rfl, rfl⟩, ⟨_, rfl, rfl⟩, ⟨_, rfl, rfl⟩, ⟨_, rfl, by (show Value.slice (some ⟨β 1, 0, none⟩) (0 + m) (β 2) = Value.slice (some ⟨β 1, 0, none⟩) (S.length - 1) (β 2)); rw [show 0 + m = S.length - 1 from by omega]⟩, trivial⟩, ⟨zM rfl rfl, trivial⟩, rfl, fun w2 hw2 hLo => ⟨hw2, wo_own (hge 1 _ rfl rfl) (show 0 + m = S.length - 1 by omega) hE (by rw [hX]; show [] ++ X2 = X1 ++ X2; first | rfl | (rw [show X2 = [] from List.length_eq_zero_iff.1 (by omega)]; rfl) | rw [show X1 = [] from List.length_eq_zero_iff.1 (by omega)]) (hLo 1 (by simp) _ rfl)⟩⟩)⟩
 · rcases Nat.eq_zero_or_pos m with hm0 | hm0
   · subst hm0
     repeat'
      conv => whnf
      first
       | refine zA ?_ | refine zB ?_ | refine zC ?_ | refine zD ?_ | refine zE ?_ | refine zF ?_ | refine zG ?_ | refine zH ?_ | refine zJ ?_ | refine zI ?_ | refine splT ?_ | refine splF ?_ | refine splNot ?_
       | ((first | refine splIn ?_ ?_ | refine splD ?_ ?_ | refine splE ?_ ?_ | refine splNE ?_ ?_) <;> intro hc <;> first | (exfalso; omega) | (exfalso; dsimp only at hc; omega) | skip)
       | refine slHi env rfl rfl rfl rfl (by omega) rfl ?_
       | refine slLn env A (0) rfl rfl rfl rfl hzi (by omega) (by omega) hA rfl ?_
       | refine Exists.intro (α := List Value) (X1) ⟨⟨n1, fun w2 hw2 => x1 w2 hw2, o1⟩, ?_⟩
       | refine Exists.intro (α := List Value) ([]) ⟨⟨rfl, fun w2 hw2 => e_nil w2 _, o_nil⟩, ?_⟩
     all_goals first | (exfalso; omega) | skip
     exact ⟨rfl, Dis.mk3 (w0 := w) id [3] rfl (fun i hi => by rw [List.mem_singleton] at hi; subst hi; exact ⟨_, rfl, rfl⟩) (fun w' h => h) (fun β w1 hok hw1 hge => ⟨(some ⟨β 3, 0, none⟩, β 4), trivial, ⟨⟨_, rfl, rfl⟩, ⟨_, rfl, rfl⟩, ⟨_, rfl, rfl⟩, ⟨_, rfl, by (show Value.slice (some ⟨β 3, 0, none⟩) (0 + k + 0) (β 4) = Value.slice (some ⟨β 3, 0, none⟩) (S.length - 1) (β 4)); rw [show 0 + k + 0 = S.length - 1 from by omega]⟩, trivial⟩, ⟨zM rfl rfl, trivial⟩, rfl, fun w2 hw2 hLo => ⟨hw2, wo_own (hge 3 _ rfl rfl) (show 0 + k + 0 = S.length - 1 by omega) hE (by rw [hX]; show ([] ++ X1) ++ [] = X1 ++ X2; first | rfl | (rw [show X2 = [] from List.length_eq_zero_iff.1 (by omega)]; rfl) | rw [show X1 = [] from List.length_eq_zero_iff.1 (by omega)]) (hLo 3 (by simp) _ rfl)⟩⟩)⟩
   · skip
     repeat'
      conv => whnf
      first
       | refine zA ?_ | refine zB ?_ | refine zC ?_ | refine zD ?_ | refine zE ?_ | refine zF ?_ | refine zG ?_ | refine zH ?_ | refine zJ ?_ | refine zI ?_ | refine splT ?_ | refine splF ?_ | refine splNot ?_
       | ((first | refine splIn ?_ ?_ | refine splD ?_ ?_ | refine splE ?_ ?_ | refine splNE ?_ ?_) <;> intro hc <;> first | (exfalso; omega) | (exfalso; dsimp only at hc; omega) | skip)
       | refine slHi env rfl rfl rfl rfl (by omega) rfl ?_
       | refine slLn env A (m) rfl rfl rfl rfl hzi (by omega) (by omega) hA rfl ?_
       | refine Exists.intro (α := List Value) (X1) ⟨⟨n1, fun w2 hw2 => x1 w2 hw2, o1⟩, ?_⟩
       | refine Exists.intro (α := List Value) (X2) ⟨⟨n2, fun w2 hw2 => x2 w2 hw2, o2⟩, ?_⟩
     all_goals first | (exfalso; omega) | skip
     exact ⟨rfl, Dis.mk3 (w0 := w) id [3] rfl (fun i hi => by rw [List.mem_singleton] at hi; subst hi; exact ⟨_, rfl, rfl⟩) (fun w' h => h) (fun β w1 hok hw1 hge => ⟨(some ⟨β 3, 0, none⟩, β 4), trivial, ⟨⟨_, rfl, rfl⟩, ⟨_, rfl, rfl⟩, ⟨_, rfl, rfl⟩, ⟨_, rfl, by (show Value.slice (some ⟨β 3, 0, none⟩) (0 + k + m) (β 4) = Value.slice (some ⟨β 3, 0, none⟩) (S.length - 1) (β 4)); rw [show 0 + k + m = S.length - 1 from by omega]⟩, trivial⟩, ⟨zM rfl rfl, trivial⟩, rfl, fun w2 hw2 hLo => ⟨hw2, wo_own (hge 3 _ rfl rfl) (show 0 + k + m = S.length - 1 by omega) hE (by rw [hX]; show ([] ++ X1) ++ X2 = X1 ++ X2; first | rfl | (rw [show X2 = [] from List.length_eq_zero_iff.1 (by omega)]; rfl) | rw [show X1 = [] from List.length_eq_zero_iff.1 (by omega)]) (hLo 3 (by simp) _ rfl)⟩⟩)⟩
set_option maxHeartbeats 4000000 in
set_option maxRecDepth 100000 in
theorem Rr5 (days shift size : Int) (to : Option Addr) (tc : Nat) (T : List Tn) (lo : Option Addr) (lc : Nat) (L : List Lr) (x : Tr) (ad : Addr) (c : Nat) (S : List (Int × Int × Int)) (k : Nat) (w : World) (h : TrIn x w) (hn : ToN x.d) (hS : SpIn (some ad) c S w) (hl : S.length ≤ 20) (hk : k < S.length) (hF : fsO x.d S = []) (hx : ⟨days, shift, size, to, tc, T, lo, lc, L⟩ = x) (hN : neB S = true) (y : Option Addr × Nat)
 (h5 : VC Try.prog (rest 3 (rest 2 body47)) ⟨103, [(1, .v (.slice (some ad) S.length c)), (2, .v (iv k)), (3, .ptr 0 0), (10, .v (fvV (trR (Tr.d ⟨days, shift, size, to, tc, T, lo, lc, L⟩) none (S.eraseIdx k)) y)), (11, .v (iv (fvM (trR (Tr.d ⟨days, shift, size, to, tc, T, lo, lc, L⟩) none (S.eraseIdx k))))), (12, .v (.bool ((trR (Tr.d ⟨days, shift, size, to, tc, T, lo, lc, L⟩) none (S.eraseIdx k))).isSome))], [(0, .cells (Tr.l ⟨days, shift, size, to, tc, T, lo, lc, L⟩) 25)], 1, fun w' => Below w.heap.size w w' ∧ St w.heap.size (FS (trR (Tr.d ⟨days, shift, size, to, tc, T, lo, lc, L⟩) none (S.eraseIdx k)) y) w', z0⟩ (endΦ env Try.f47 fun s σ => (∀ w', σ.h w' → Below w.heap.size w w') ∧ ∀ β w', σ.h w' → (∀ i b, lk σ.m i = some b → b.live = true → St w.heap.size (fun w2 => b.ok β w2 (β i)) w') → ∃ y : Option Addr × Nat, s.c β = .tuple #[fvV (rpO (Tr.d ⟨days, shift, size, to, tc, T, lo, lc, L⟩) S k) y, iv (fvM (rpO (Tr.d ⟨days, shift, size, to, tc, T, lo, lc, L⟩) S k) - pfO (Tr.d ⟨days, shift, size, to, tc, T, lo, lc, L⟩) S), .bool ((rpO (Tr.d ⟨days, shift, size, to, tc, T, lo, lc, L⟩) S k)).isSome] ∧ St w.heap.size (FS (rpO (Tr.d ⟨days, shift, size, to, tc, T, lo, lc, L⟩) S k) y) w')) :
 VC Try.prog (rest 2 body47) ⟨103, [(1, .v (.slice (some ad) S.length c)), (2, .v (iv k)), (3, .ptr 0 0), (9, .v (sV (S.length - 1) y))], [(0, .cells (Tr.l ⟨days, shift, size, to, tc, T, lo, lc, L⟩) 25)], 1, fun w' => Below w.heap.size w w' ∧ St w.heap.size (fun w2 => Rd 3 spF (sV (S.length - 1) y) (S.eraseIdx k) w2 ∧ S.length - 1 ≤ y.2) w', z0⟩ (endΦ env Try.f47 fun s σ => (∀ w', σ.h w' → Below w.heap.size w w') ∧ ∀ β w', σ.h w' → (∀ i b, lk σ.m i = some b → b.live = true → St w.heap.size (fun w2 => b.ok β w2 (β i)) w') → ∃ y : Option Addr × Nat, s.c β = .tuple #[fvV (rpO (Tr.d ⟨days, shift, size, to, tc, T, lo, lc, L⟩) S k) y, iv (fvM (rpO (Tr.d ⟨days, shift, size, to, tc, T, lo, lc, L⟩) S k) - pfO (Tr.d ⟨days, shift, size, to, tc, T, lo, lc, L⟩) S), .bool ((rpO (Tr.d ⟨days, shift, size, to, tc, T, lo, lc, L⟩) S k)).isSome] ∧ St w.heap.size (FS (rpO (Tr.d ⟨days, shift, size, to, tc, T, lo, lc, L⟩) S k) y) w') := by
 subst hx
 have hE : (S.eraseIdx k).length = S.length - 1 := by rw [List.length_eraseIdx, if_pos hk]
 have hNE : neB (S.eraseIdx k) = true := by
  unfold neB at hN ⊢
  rw [List.all_eq_true] at hN ⊢
  exact fun s hs => hN s (List.mem_of_mem_eraseIdx hs)
 have hSp : ∀ w', St w.heap.size (fun w2 => Rd 3 spF (sV (S.length - 1) y) (S.eraseIdx k) w2 ∧ S.length - 1 ≤ y.2) w' → SpIn y.1 y.2 (S.eraseIdx k) w' := fun w' hw => by
  obtain ⟨g1, g2⟩ := hw.now
  refine ⟨by rw [hE]; exact g1, by omega, by omega, fun s hs => hS.n s (List.mem_of_mem_eraseIdx hs)⟩
 have h25 := fun w' (hb : Below w.heap.size w w' ∧ St w.heap.size (fun w2 => Rd 3 spF (sV (S.length - 1) y) (S.eraseIdx k) w2 ∧ S.length - 1 ≤ y.2) w') => rfaults_ok ⟨days, shift, size, to, tc, T, lo, lc, L⟩ y.1 y.2 (S.eraseIdx k) w' (h.below hb.1) hn (hSp w' hb.2) hNE
 rw [hE] at h25
 have hr0 := tr_take (x := (Tr.d ⟨days, shift, size, to, tc, T, lo, lc, L⟩)) (r := none) (S := S.eraseIdx k)
 refine VC.cutD env mixed 3 1 (fun _ : Unit => [(1, .v (.slice (some ad) S.length c)), (2, .v (iv k)), (3, .ptr 0 0), (10, .v (fvV (trR (Tr.d ⟨days, shift, size, to, tc, T, lo, lc, L⟩) none (S.eraseIdx k)) y)), (11, .v (iv (fvM (trR (Tr.d ⟨days, shift, size, to, tc, T, lo, lc, L⟩) none (S.eraseIdx k))))), (12, .v (.bool ((trR (Tr.d ⟨days, shift, size, to, tc, T, lo, lc, L⟩) none (S.eraseIdx k))).isSome))]) (fun _ => [(0, .cells (Tr.l ⟨days, shift, size, to, tc, T, lo, lc, L⟩) 25)]) (fun _ w' => Below w.heap.size w w' ∧ St w.heap.size (FS (trR (Tr.d ⟨days, shift, size, to, tc, T, lo, lc, L⟩) none (S.eraseIdx k)) y) w') (fun _ => True) (fun _ _ => ⟨rfl, rfl⟩) ?_ (fun _ _ => h5)
 clear h5
 by_cases hf : fsO (Tr.d ⟨days, shift, size, to, tc, T, lo, lc, L⟩) (S.eraseIdx k) = []
 · have hR : (trR (Tr.d ⟨days, shift, size, to, tc, T, lo, lc, L⟩) none (S.eraseIdx k)) = some (S.eraseIdx k, pfO (Tr.d ⟨days, shift, size, to, tc, T, lo, lc, L⟩) (S.eraseIdx k)) := by unfold trR; rw [if_pos hf]
   have hsn := fs_spn hn hf
   have hlT : (Tr.d ⟨days, shift, size, to, tc, T, lo, lc, L⟩).T.length = T.length := List.length_map ..
   rw [hlT] at hsn
   have h26 := fun w' (hb : Below w.heap.size w w' ∧ St w.heap.size (fun w2 => Rd 3 spF (sV (S.length - 1) y) (S.eraseIdx k) w2 ∧ S.length - 1 ≤ y.2) w') => rprofit_ok ⟨days, shift, size, to, tc, T, lo, lc, L⟩ y.1 y.2 (S.eraseIdx k) w' (h.below hb.1) hn (hSp w' hb.2).r (by omega) hsn
   rw [hE] at h26
   rw [hf] at h25
   rw [hR, show fvV (some (S.eraseIdx k, pfO (Tr.d ⟨days, shift, size, to, tc, T, lo, lc, L⟩) (S.eraseIdx k))) y = sV (S.length - 1) y from by simp only [fvV, hE], show fvM (some (S.eraseIdx k, pfO (Tr.d ⟨days, shift, size, to, tc, T, lo, lc, L⟩) (S.eraseIdx k))) = pfO (Tr.d ⟨days, shift, size, to, tc, T, lo, lc, L⟩) (S.eraseIdx k) from rfl]
   generalize pfO (Tr.d ⟨days, shift, size, to, tc, T, lo, lc, L⟩) (S.eraseIdx k) = P at *
   clear hR hr0 hf
   repeat'
    conv => whnf
    first
     | refine zA ?_ | refine zB ?_ | refine zC ?_ | refine zD ?_ | refine zE ?_ | refine zF ?_ | refine zG ?_ | refine zH ?_ | refine zJ ?_ | refine zI ?_ | refine splT ?_ | refine splF ?_ | refine splNot ?_
     | ((first | refine splIn ?_ ?_ | refine splD ?_ ?_ | refine splE ?_ ?_ | refine splNE ?_ ?_) <;> intro hc <;> first | (exfalso; omega) | (exfalso; dsimp only at hc; omega) | skip)
     | ((with_reducible show CallEv _ _ 25 _ _ _ _ _); refine callF [] (fun z : Option Addr × Nat => sV 0 z) (fun _ _ => True) (fun β w' _ hbw => (h25 w' hbw).mono fun e w2 ⟨z, h1, h2, _⟩ => ⟨z, h1, h2, fun _ _ => trivial⟩) ?_; intro z)
     | ((with_reducible show CallEv _ _ 26 _ _ _ _ _); refine callE (k := 26) (fun β w' hbw => h26 w' hbw.1) ?_)
   all_goals first | (exfalso; omega) | skip
   exact ⟨rfl, Dis.mk3 (w0 := w) id [] rfl (fun i hi => by cases hi) (fun w' h => h.1.1) (fun β w1 hok hw1 hge => ⟨(), trivial, ⟨⟨_, rfl, rfl⟩, ⟨_, rfl, rfl⟩, ⟨_, rfl, rfl⟩, ⟨_, rfl, rfl⟩, ⟨_, rfl, rfl⟩, ⟨_, rfl, rfl⟩, trivial⟩, ⟨zM rfl rfl, trivial⟩, rfl, fun w2 hw2 hLo => ⟨hw2.1.1, hw2.1.2.imp fun w3 h3 => (show Rd 3 spF (sV (S.eraseIdx k).length y) (S.eraseIdx k) w3 ∧ (S.eraseIdx k).length ≤ y.2 from by rw [hE]; exact h3)⟩⟩)⟩
 · have hR : (trR (Tr.d ⟨days, shift, size, to, tc, T, lo, lc, L⟩) none (S.eraseIdx k)) = none := by unfold trR; rw [if_neg hf]
   have hfl : 1 ≤ (fsO (Tr.d ⟨days, shift, size, to, tc, T, lo, lc, L⟩) (S.eraseIdx k)).length := by
    cases hc : fsO (Tr.d ⟨days, shift, size, to, tc, T, lo, lc, L⟩) (S.eraseIdx k) with
    | nil => exact absurd hc hf
    | cons a l => simp
   have hfl2 := fsP_len (Tr.d ⟨days, shift, size, to, tc, T, lo, lc, L⟩) (S.eraseIdx k) (S.eraseIdx k).length
   change (fsO (Tr.d ⟨days, shift, size, to, tc, T, lo, lc, L⟩) (S.eraseIdx k)).length ≤ _ at hfl2
   rw [hR]
   generalize fsO (Tr.d ⟨days, shift, size, to, tc, T, lo, lc, L⟩) (S.eraseIdx k) = F at *
   clear hR hr0 hf
   repeat'
    conv => whnf
    first
     | refine zA ?_ | refine zB ?_ | refine zC ?_ | refine zD ?_ | refine zE ?_ | refine zF ?_ | refine zG ?_ | refine zH ?_ | refine zJ ?_ | refine zI ?_ | refine splT ?_ | refine splF ?_ | refine splNot ?_
     | ((first | refine splIn ?_ ?_ | refine splD ?_ ?_ | refine splE ?_ ?_ | refine splNE ?_ ?_) <;> intro hc <;> first | (exfalso; omega) | (exfalso; dsimp only at hc; omega) | skip)
     | ((with_reducible show CallEv _ _ 25 _ _ _ _ _); refine callF [] (fun z : Option Addr × Nat => sV F.length z) (fun _ _ => True) (fun β w' _ hbw => (h25 w' hbw).mono fun e w2 ⟨z, h1, h2, _⟩ => ⟨z, h1, h2, fun _ _ => trivial⟩) ?_; intro z)
   all_goals first | (exfalso; omega) | skip
   exact ⟨rfl, Dis.mk3 (w0 := w) id [] rfl (fun i hi => by cases hi) (fun w' h => h.1.1) (fun β w1 hok hw1 hge => ⟨(), trivial, ⟨⟨_, rfl, rfl⟩, ⟨_, rfl, rfl⟩, ⟨_, rfl, rfl⟩, ⟨_, rfl, rfl⟩, ⟨_, rfl, rfl⟩, ⟨_, rfl, rfl⟩, trivial⟩, ⟨zM rfl rfl, trivial⟩, rfl, fun w2 hw2 hLo => ⟨hw2.1.1, fun _ _ => trivial⟩⟩)⟩
set_option maxHeartbeats 4000000 in
set_option maxRecDepth 100000 in
theorem Rr6 (days shift size : Int) (to : Option Addr) (tc : Nat) (T : List Tn) (lo : Option Addr) (lc : Nat) (L : List Lr) (x : Tr) (ad : Addr) (c : Nat) (S : List (Int × Int × Int)) (k : Nat) (w : World) (h : TrIn x w) (hn : ToN x.d) (hS : SpIn (some ad) c S w) (hl : S.length ≤ 20) (hk : k < S.length) (hF : fsO x.d S = []) (hx : ⟨days, shift, size, to, tc, T, lo, lc, L⟩ = x) (hN : neB S = true) (y0 : Option Addr × Nat) :
 VC Try.prog (rest 3 (rest 2 body47)) ⟨103, [(1, .v (.slice (some ad) S.length c)), (2, .v (iv k)), (3, .ptr 0 0), (10, .v (fvV (trR (Tr.d ⟨days, shift, size, to, tc, T, lo, lc, L⟩) none (S.eraseIdx k)) y0)), (11, .v (iv (fvM (trR (Tr.d ⟨days, shift, size, to, tc, T, lo, lc, L⟩) none (S.eraseIdx k))))), (12, .v (.bool ((trR (Tr.d ⟨days, shift, size, to, tc, T, lo, lc, L⟩) none (S.eraseIdx k))).isSome))], [(0, .cells (Tr.l ⟨days, shift, size, to, tc, T, lo, lc, L⟩) 25)], 1, fun w' => Below w.heap.size w w' ∧ St w.heap.size (FS (trR (Tr.d ⟨days, shift, size, to, tc, T, lo, lc, L⟩) none (S.eraseIdx k)) y0) w', z0⟩ (endΦ env Try.f47 fun s σ => (∀ w', σ.h w' → Below w.heap.size w w') ∧ ∀ β w', σ.h w' → (∀ i b, lk σ.m i = some b → b.live = true → St w.heap.size (fun w2 => b.ok β w2 (β i)) w') → ∃ y : Option Addr × Nat, s.c β = .tuple #[fvV (rpO (Tr.d ⟨days, shift, size, to, tc, T, lo, lc, L⟩) S k) y, iv (fvM (rpO (Tr.d ⟨days, shift, size, to, tc, T, lo, lc, L⟩) S k) - pfO (Tr.d ⟨days, shift, size, to, tc, T, lo, lc, L⟩) S), .bool ((rpO (Tr.d ⟨days, shift, size, to, tc, T, lo, lc, L⟩) S k)).isSome] ∧ St w.heap.size (FS (rpO (Tr.d ⟨days, shift, size, to, tc, T, lo, lc, L⟩) S k) y) w') := by
 subst hx
 have hnT := hn.n
 have hday := hn.d
 simp only [Tr.d, List.length_map] at hnT hday
 have hlT : (Tr.d ⟨days, shift, size, to, tc, T, lo, lc, L⟩).T.length = T.length := List.length_map ..
 have hSr := fun w' (hb : Below w.heap.size w w') => hS.r.below hb
 have hbel := fun w' (hb : Below w.heap.size w w') => h.below hb
 obtain ⟨⟨a, f0, l0⟩, hs⟩ : ∃ s, S[k]? = some s := ⟨_, List.getElem?_eq_getElem hk⟩
 have e0 := fun (w' : World) hw' => rd_fldz (hSr w' hw') hs ((k : Nat) : Int) rfl 0 (iv a) rfl
 have hrO : (rpO (Tr.d ⟨days, shift, size, to, tc, T, lo, lc, L⟩) S k) = (rpN (Tr.d ⟨days, shift, size, to, tc, T, lo, lc, L⟩) S k (T.length - 1)) := by unfold rpO; rw [hlT]
 have hrT : ∀ i, (rpN (Tr.d ⟨days, shift, size, to, tc, T, lo, lc, L⟩) S k (i + 1)) = if a = ((i + 1 : Nat) : Int) then (rpN (Tr.d ⟨days, shift, size, to, tc, T, lo, lc, L⟩) S k i) else rpF (Tr.d ⟨days, shift, size, to, tc, T, lo, lc, L⟩) S k (i + 1) (rpN (Tr.d ⟨days, shift, size, to, tc, T, lo, lc, L⟩) S k i) days.toNat := fun i => by
  rw [rpN_succ]; unfold rpT; rw [hs]; simp only [Option.map_some, Option.some.injEq]
 refine VC.of env mixed ?_
 repeat'
  conv => whnf
  first
   | refine zA ?_ | refine zB ?_ | refine zC ?_ | refine zD ?_ | refine zE ?_ | refine zF ?_ | refine zG ?_ | refine zH ?_ | refine zJ ?_ | refine zI ?_ | refine splT ?_ | refine splF ?_ | refine splNot ?_
   | ((first | refine splIn ?_ ?_ | refine splD ?_ ?_ | refine splE ?_ ?_ | refine splNE ?_ ?_) <;> intro hc <;> first | (exfalso; omega) | (exfalso; dsimp only at hc; omega) | skip)
 refine loopD 1 (fun p : Nat × (Option Addr × Nat) => [(1, .v (.slice (some ad) S.length c)), (2, .v (iv k)), (3, .ptr 0 0), (10, .v (fvV (rpN (Tr.d ⟨days, shift, size, to, tc, T, lo, lc, L⟩) S k p.1) p.2)), (11, .v (iv (fvM (rpN (Tr.d ⟨days, shift, size, to, tc, T, lo, lc, L⟩) S k p.1)))), (12, .v (.bool ((rpN (Tr.d ⟨days, shift, size, to, tc, T, lo, lc, L⟩) S k p.1)).isSome)), (13, .v (iv (p.1 + 1 : Nat)))]) (fun p => [(0, .cells (Tr.l ⟨days, shift, size, to, tc, T, lo, lc, L⟩) 25)]) (fun p w' => Below w.heap.size w w' ∧ St w.heap.size (FS (rpN (Tr.d ⟨days, shift, size, to, tc, T, lo, lc, L⟩) S k p.1) p.2) w') (fun p => p.1 ≤ T.length - 1) (fun p => T.length - 1 - p.1)
  (by refine Dis.mk3 (w0 := w) id [] rfl (fun i hi => by cases hi) (fun w' h => (by repeat (first | exact h | replace h := h.1))) (fun β w1 hok hw1 hge => ⟨(0, y0), Nat.zero_le _, ⟨⟨_, rfl, rfl⟩, ⟨_, rfl, rfl⟩, ⟨_, rfl, rfl⟩, ⟨_, rfl, rfl⟩, ⟨_, rfl, rfl⟩, ⟨_, rfl, rfl⟩, ⟨_, rfl, rfl⟩, trivial⟩, ⟨zM rfl rfl, trivial⟩, rfl, fun w2 hw2 _ => hw2⟩)) (fun p _ => ⟨rfl, rfl⟩) ?_
 intro ⟨i, y⟩ hi
 dsimp only at hi ⊢
 rcases Nat.lt_or_ge i (T.length - 1) with hil | hil
 · have hRi := hrT i
   by_cases hai : a = ((i + 1 : Nat) : Int)
   · rw [if_pos hai] at hRi
     subst hai
     repeat'
      conv => whnf
      first
       | refine zA ?_ | refine zB ?_ | refine zC ?_ | refine zD ?_ | refine zE ?_ | refine zF ?_ | refine zG ?_ | refine zH ?_ | refine zJ ?_ | refine zI ?_ | refine splT ?_ | refine splF ?_ | refine splNot ?_
       | ((first | refine splIn ?_ ?_ | refine splD ?_ ?_ | refine splE ?_ ?_ | refine splNE ?_ ?_) <;> intro hc <;> first | (exfalso; omega) | (exfalso; dsimp only at hc; omega) | skip)
     all_goals first | (exfalso; omega) | skip
     refine loopD 1 (fun y : Option Addr × Nat => [(1, .v (.slice (some ad) S.length c)), (2, .v (iv k)), (3, .ptr 0 0), (10, .v (fvV (rpN (Tr.d ⟨days, shift, size, to, tc, T, lo, lc, L⟩) S k i) y)), (11, .v (iv (fvM (rpN (Tr.d ⟨days, shift, size, to, tc, T, lo, lc, L⟩) S k i)))), (12, .v (.bool ((rpN (Tr.d ⟨days, shift, size, to, tc, T, lo, lc, L⟩) S k i)).isSome)), (13, .v (iv (i + 1 : Nat))), (14, .v (iv 0))]) (fun _ => [(0, .cells (Tr.l ⟨days, shift, size, to, tc, T, lo, lc, L⟩) 25)]) (fun y w' => Below w.heap.size w w' ∧ St w.heap.size (FS (rpN (Tr.d ⟨days, shift, size, to, tc, T, lo, lc, L⟩) S k i) y) w') (fun _ => True) (fun _ => 1)
      (by refine Dis.mk3 (w0 := w) id [] rfl (fun i hi => by cases hi) (fun w' h => (by repeat (first | exact h | replace h := h.1))) (fun β w1 hok hw1 hge => ⟨y, trivial, ⟨⟨_, rfl, rfl⟩, ⟨_, rfl, rfl⟩, ⟨_, rfl, rfl⟩, ⟨_, rfl, rfl⟩, ⟨_, rfl, rfl⟩, ⟨_, rfl, rfl⟩, ⟨_, rfl, rfl⟩, ⟨_, rfl, rfl⟩, trivial⟩, ⟨zM rfl rfl, trivial⟩, rfl, fun w2 hw2 _ => hw2⟩)) (fun p _ => ⟨rfl, rfl⟩) ?_
     intro y _
     repeat'
      conv => whnf
      first
       | refine zA ?_ | refine zB ?_ | refine zC ?_ | refine zD ?_ | refine zE ?_ | refine zF ?_ | refine zG ?_ | refine zH ?_ | refine zJ ?_ | refine zI ?_ | refine splT ?_ | refine splF ?_ | refine splNot ?_
       | ((first | refine splIn ?_ ?_ | refine splD ?_ ?_ | refine splE ?_ ?_ | refine splNE ?_ ?_) <;> intro hc <;> first | (exfalso; omega) | (exfalso; dsimp only at hc; omega) | skip)
       | refine Exists.intro (α := List Value) [iv ((i + 1 : Nat) : Int)] ⟨⟨rfl, fun w' hw' => e0 w' hw'.1⟩, ?_⟩
     all_goals first | (exfalso; omega) | skip
     refine Dis.mk3 (w0 := w) id [] rfl (fun i hi => by cases hi) (fun w' h => (by repeat (first | exact h | replace h := h.1))) (fun β w1 hok hw1 hge => ⟨(i + 1, y), ⟨by (show i + 1 ≤ _); omega, by (show _ - (i + 1) < _); omega⟩, ⟨⟨_, rfl, rfl⟩, ⟨_, rfl, rfl⟩, ⟨_, rfl, rfl⟩, ⟨_, rfl, by rw [hRi]; rfl⟩, ⟨_, rfl, by rw [hRi]; rfl⟩, ⟨_, rfl, by rw [hRi]; rfl⟩, ⟨_, rfl, rfl⟩, trivial⟩, ⟨zM rfl rfl, trivial⟩, rfl, fun w2 hw2 _ => by rw [hRi]; exact hw2⟩)
   · rw [if_neg hai] at hRi
     have ht : 1 ≤ i + 1 ∧ i + 1 < (Tr.d ⟨days, shift, size, to, tc, T, lo, lc, L⟩).T.length := by rw [hlT]; omega
     repeat'
      conv => whnf
      first
       | refine zA ?_ | refine zB ?_ | refine zC ?_ | refine zD ?_ | refine zE ?_ | refine zF ?_ | refine zG ?_ | refine zH ?_ | refine zJ ?_ | refine zI ?_ | refine splT ?_ | refine splF ?_ | refine splNot ?_
       | ((first | refine splIn ?_ ?_ | refine splD ?_ ?_ | refine splE ?_ ?_ | refine splNE ?_ ?_) <;> intro hc <;> first | (exfalso; omega) | (exfalso; dsimp only at hc; omega) | skip)
     all_goals first | (exfalso; omega) | skip
     refine loopD 1 (fun p : Nat × (Option Addr × Nat) => [(1, .v (.slice (some ad) S.length c)), (2, .v (iv k)), (3, .ptr 0 0), (10, .v (fvV (rpF (Tr.d ⟨days, shift, size, to, tc, T, lo, lc, L⟩) S k (i + 1) (rpN (Tr.d ⟨days, shift, size, to, tc, T, lo, lc, L⟩) S k i) p.1) p.2)), (11, .v (iv (fvM (rpF (Tr.d ⟨days, shift, size, to, tc, T, lo, lc, L⟩) S k (i + 1) (rpN (Tr.d ⟨days, shift, size, to, tc, T, lo, lc, L⟩) S k i) p.1)))), (12, .v (.bool ((rpF (Tr.d ⟨days, shift, size, to, tc, T, lo, lc, L⟩) S k (i + 1) (rpN (Tr.d ⟨days, shift, size, to, tc, T, lo, lc, L⟩) S k i) p.1)).isSome)), (13, .v (iv (i + 1 : Nat))), (14, .v (iv (p.1 : Nat)))]) (fun _ => [(0, .cells (Tr.l ⟨days, shift, size, to, tc, T, lo, lc, L⟩) 25)]) (fun p w' => Below w.heap.size w w' ∧ St w.heap.size (FS (rpF (Tr.d ⟨days, shift, size, to, tc, T, lo, lc, L⟩) S k (i + 1) (rpN (Tr.d ⟨days, shift, size, to, tc, T, lo, lc, L⟩) S k i) p.1) p.2) w') (fun p => p.1 ≤ days.toNat) (fun p => days.toNat - p.1)
      (by refine Dis.mk3 (w0 := w) id [] rfl (fun i hi => by cases hi) (fun w' h => (by repeat (first | exact h | replace h := h.1))) (fun β w1 hok hw1 hge => ⟨(0, y), Nat.zero_le _, ⟨⟨_, rfl, rfl⟩, ⟨_, rfl, rfl⟩, ⟨_, rfl, rfl⟩, ⟨_, rfl, rfl⟩, ⟨_, rfl, rfl⟩, ⟨_, rfl, rfl⟩, ⟨_, rfl, rfl⟩, ⟨_, rfl, rfl⟩, trivial⟩, ⟨zM rfl rfl, trivial⟩, rfl, fun w2 hw2 _ => hw2⟩)) (fun p _ => ⟨rfl, rfl⟩) ?_
     intro ⟨q, y⟩ hq
     dsimp only at hq ⊢
     rcases Nat.lt_or_ge q days.toNat with hql | hql
     · have hmn := imin_eq days ((q : Int) + 10)
       obtain ⟨M, hM⟩ : ∃ M, min days.toNat (q + 10) - q = M := ⟨_, rfl⟩
       have hRn : (rpF (Tr.d ⟨days, shift, size, to, tc, T, lo, lc, L⟩) S k (i + 1) (rpN (Tr.d ⟨days, shift, size, to, tc, T, lo, lc, L⟩) S k i) (q + 1)) = (rfL (Tr.d ⟨days, shift, size, to, tc, T, lo, lc, L⟩) S k (i + 1) q (rpF (Tr.d ⟨days, shift, size, to, tc, T, lo, lc, L⟩) S k (i + 1) (rpN (Tr.d ⟨days, shift, size, to, tc, T, lo, lc, L⟩) S k i) q) M) := by rw [rpF_succ, ← hM]; exact (rfL_eq hn ht hk hql).symm
       repeat'
        conv => whnf
        first
         | refine zA ?_ | refine zB ?_ | refine zC ?_ | refine zD ?_ | refine zE ?_ | refine zF ?_ | refine zG ?_ | refine zH ?_ | refine zJ ?_ | refine zI ?_ | refine splT ?_ | refine splF ?_ | refine splNot ?_
         | ((first | refine splIn ?_ ?_ | refine splD ?_ ?_ | refine splE ?_ ?_ | refine splNE ?_ ?_) <;> intro hc <;> first | (exfalso; omega) | (exfalso; dsimp only at hc; omega) | skip)
         | refine Exists.intro (α := List Value) [iv a] ⟨⟨rfl, fun w' hw' => e0 w' hw'.1⟩, ?_⟩
       all_goals first | (exfalso; omega) | skip
       refine loopD 1 (fun p : Nat × (Option Addr × Nat) => [(1, .v (.slice (some ad) S.length c)), (2, .v (iv k)), (3, .ptr 0 0), (10, .v (fvV (rfL (Tr.d ⟨days, shift, size, to, tc, T, lo, lc, L⟩) S k (i + 1) q (rpF (Tr.d ⟨days, shift, size, to, tc, T, lo, lc, L⟩) S k (i + 1) (rpN (Tr.d ⟨days, shift, size, to, tc, T, lo, lc, L⟩) S k i) q) p.1) p.2)), (11, .v (iv (fvM (rfL (Tr.d ⟨days, shift, size, to, tc, T, lo, lc, L⟩) S k (i + 1) q (rpF (Tr.d ⟨days, shift, size, to, tc, T, lo, lc, L⟩) S k (i + 1) (rpN (Tr.d ⟨days, shift, size, to, tc, T, lo, lc, L⟩) S k i) q) p.1)))), (12, .v (.bool ((rfL (Tr.d ⟨days, shift, size, to, tc, T, lo, lc, L⟩) S k (i + 1) q (rpF (Tr.d ⟨days, shift, size, to, tc, T, lo, lc, L⟩) S k (i + 1) (rpN (Tr.d ⟨days, shift, size, to, tc, T, lo, lc, L⟩) S k i) q) p.1)).isSome)), (13, .v (iv (i + 1 : Nat))), (14, .v (iv (q : Nat))), (15, .v (iv (q + p.1 : Nat)))]) (fun _ => [(0, .cells (Tr.l ⟨days, shift, size, to, tc, T, lo, lc, L⟩) 25)]) (fun p w' => Below w.heap.size w w' ∧ St w.heap.size (FS (rfL (Tr.d ⟨days, shift, size, to, tc, T, lo, lc, L⟩) S k (i + 1) q (rpF (Tr.d ⟨days, shift, size, to, tc, T, lo, lc, L⟩) S k (i + 1) (rpN (Tr.d ⟨days, shift, size, to, tc, T, lo, lc, L⟩) S k i) q) p.1) p.2) w') (fun p => p.1 ≤ M) (fun p => M - p.1)
        (by refine Dis.mk3 (w0 := w) id [] rfl (fun i hi => by cases hi) (fun w' h => (by repeat (first | exact h | replace h := h.1))) (fun β w1 hok hw1 hge => ⟨(0, y), Nat.zero_le _, ⟨⟨_, rfl, rfl⟩, ⟨_, rfl, rfl⟩, ⟨_, rfl, rfl⟩, ⟨_, rfl, rfl⟩, ⟨_, rfl, rfl⟩, ⟨_, rfl, rfl⟩, ⟨_, rfl, rfl⟩, ⟨_, rfl, rfl⟩, ⟨_, rfl, rfl⟩, trivial⟩, ⟨zM rfl rfl, trivial⟩, rfl, fun w2 hw2 _ => hw2⟩)) (fun p _ => ⟨rfl, rfl⟩) ?_
       intro ⟨m, y⟩ hm
       dsimp only at hm ⊢
       rcases Nat.lt_or_ge m M with hmM | hmM
       · have hSN : (S.set k (((i + 1 : Nat) : Int), (q : Int), ((q + m : Nat) : Int))).length = S.length := List.length_set ..
         have hst : (rfL (Tr.d ⟨days, shift, size, to, tc, T, lo, lc, L⟩) S k (i + 1) q (rpF (Tr.d ⟨days, shift, size, to, tc, T, lo, lc, L⟩) S k (i + 1) (rpN (Tr.d ⟨days, shift, size, to, tc, T, lo, lc, L⟩) S k i) q) (m + 1)) = trR (Tr.d ⟨days, shift, size, to, tc, T, lo, lc, L⟩) (rfL (Tr.d ⟨days, shift, size, to, tc, T, lo, lc, L⟩) S k (i + 1) q (rpF (Tr.d ⟨days, shift, size, to, tc, T, lo, lc, L⟩) S k (i + 1) (rpN (Tr.d ⟨days, shift, size, to, tc, T, lo, lc, L⟩) S k i) q) m) (S.set k (((i + 1 : Nat) : Int), (q : Int), ((q + m : Nat) : Int))) := rfL_succ ..
         generalize hgm : (rfL (Tr.d ⟨days, shift, size, to, tc, T, lo, lc, L⟩) S k (i + 1) q (rpF (Tr.d ⟨days, shift, size, to, tc, T, lo, lc, L⟩) S k (i + 1) (rpN (Tr.d ⟨days, shift, size, to, tc, T, lo, lc, L⟩) S k i) q) m) = rm at *
         have hNE : neB (S.set k (((i + 1 : Nat) : Int), (q : Int), ((q + m : Nat) : Int))) = true := by
          unfold neB at hN ⊢
          rw [List.all_eq_true] at hN ⊢
          intro s hs
          rcases List.mem_or_eq_of_mem_set hs with hs | rfl
          · exact hN s hs
          · simp only [inB, Bool.and_eq_true, decide_eq_true_eq]; omega
         have hSp : ∀ (β : Nat → Nat) w', (Blk.own 2 (0 + S.length) 3 ((S.set k (((i + 1 : Nat) : Int), (q : Int), ((q + m : Nat) : Int))).flatMap spF) 89).ok β w' (β 1) → SpIn (some ⟨β 1, 0, none⟩) (β 2) (S.set k (((i + 1 : Nat) : Int), (q : Int), ((q + m : Nat) : Int))) w' := fun β w' hw => by
          have h2 : w'.ownsRow 0 89 3 (.slice (some ⟨β 1, 0, none⟩) (0 + S.length) (β 2)) (0 + S.length) ((S.set k (((i + 1 : Nat) : Int), (q : Int), ((q + m : Nat) : Int))).flatMap spF) := hw
          refine ⟨Rd.of_owns (sz := 3) (f := spF) (fun _ => rfl) rfl rfl (by rw [hSN, ← Nat.zero_add S.length]; exact h2), by omega, ?_, fun s hs => ?_⟩
          · rcases h2.2 with ⟨h', _⟩ | ⟨g, cap, cur, q0, q1, q2, q3, _⟩
            · cases h'
            · simp only [Value.slice.injEq] at q0
              obtain ⟨_, _, q0⟩ := q0
              omega
          · have := neB_n hNE s hs
            omega
         have h25 : ∀ (β : Nat → Nat) w' (hb : Below w.heap.size w w') (ho : (Blk.own 2 (0 + S.length) 3 ((S.set k (((i + 1 : Nat) : Int), (q : Int), ((q + m : Nat) : Int))).flatMap spF) 89).ok β w' (β 1)), Calls Try.prog 25 #[Tr.v ⟨days, shift, size, to, tc, T, lo, lc, L⟩, .slice (some ⟨β 1, 0, none⟩) (0 + S.length) (β 2)] w' fun e w2 => ∃ y : Option Addr × Nat, e = .returned (sV (fsO (Tr.d ⟨days, shift, size, to, tc, T, lo, lc, L⟩) (S.set k (((i + 1 : Nat) : Int), (q : Int), ((q + m : Nat) : Int)))).length y) ∧ Below w'.heap.size w' w2 ∧ St w'.heap.size (Rd 2 flF (sV (fsO (Tr.d ⟨days, shift, size, to, tc, T, lo, lc, L⟩) (S.set k (((i + 1 : Nat) : Int), (q : Int), ((q + m : Nat) : Int)))).length y) (fsO (Tr.d ⟨days, shift, size, to, tc, T, lo, lc, L⟩) (S.set k (((i + 1 : Nat) : Int), (q : Int), ((q + m : Nat) : Int))))) w2 := fun β w' hb ho => by
          have h := rfaults_ok ⟨days, shift, size, to, tc, T, lo, lc, L⟩ (some ⟨β 1, 0, none⟩) (β 2) (S.set k (((i + 1 : Nat) : Int), (q : Int), ((q + m : Nat) : Int))) w' (hbel w' hb) hn (hSp β w' ho) hNE
          rw [hSN] at h
          rw [Nat.zero_add S.length]
          exact h
         have hX0 := spl3 S
         have hXe := fun w' (hb : Below w.heap.size w w') => Rd.ext (f := spF) (sz := 3) (fun _ => rfl) (hSr w' hb)
         have hXo := sp1 S
         have hcnd : (k : Int).toNat * ti89.size + ([iv ((i + 1 : Nat) : Int), iv (q : Int), iv ((q + m : Nat) : Int)] : List Value).length ≤ ([] ++ S.flatMap spF).length := by
          rw [List.nil_append, spl3, Int.toNat_natCast]; show k * 3 + 3 ≤ _; omega
         have hset : ([] ++ S.flatMap spF).take ((k : Int).toNat * ti89.size) ++ ([iv ((i + 1 : Nat) : Int), iv (q : Int), iv ((q + m : Nat) : Int)] : List Value) ++ ([] ++ S.flatMap spF).drop ((k : Int).toNat * ti89.size + ([iv ((i + 1 : Nat) : Int), iv (q : Int), iv ((q + m : Nat) : Int)] : List Value).length) = (S.set k (((i + 1 : Nat) : Int), (q : Int), ((q + m : Nat) : Int))).flatMap spF := by
          rw [← set_flat S k _ hk, Int.toNat_natCast, List.nil_append]; rfl
         generalize hX0' : S.flatMap spF = X0 at *
         by_cases hf : fsO (Tr.d ⟨days, shift, size, to, tc, T, lo, lc, L⟩) (S.set k (((i + 1 : Nat) : Int), (q : Int), ((q + m : Nat) : Int))) = []
         · rw [hf] at h25
           have hsn := fs_spn hn hf
           rw [hlT] at hsn
           have h26 : ∀ (β : Nat → Nat) w' (hb : Below w.heap.size w w') (ho : (Blk.own 2 (0 + S.length) 3 ((S.set k (((i + 1 : Nat) : Int), (q : Int), ((q + m : Nat) : Int))).flatMap spF) 89).ok β w' (β 1)), Calls Try.prog 26 #[Tr.v ⟨days, shift, size, to, tc, T, lo, lc, L⟩, .slice (some ⟨β 1, 0, none⟩) (0 + S.length) (β 2)] w' fun e w2 => e = .returned (iv (pfO (Tr.d ⟨days, shift, size, to, tc, T, lo, lc, L⟩) (S.set k (((i + 1 : Nat) : Int), (q : Int), ((q + m : Nat) : Int))))) ∧ Below w'.heap.size w' w2 := fun β w' hb ho => by
            have h := rprofit_ok ⟨days, shift, size, to, tc, T, lo, lc, L⟩ (some ⟨β 1, 0, none⟩) (β 2) (S.set k (((i + 1 : Nat) : Int), (q : Int), ((q + m : Nat) : Int))) w' (hbel w' hb) hn (hSp β w' ho).r (by omega) hsn
            rw [hSN] at h
            rw [Nat.zero_add S.length]
            exact h
           obtain ⟨P, hP⟩ : ∃ P, pfO (Tr.d ⟨days, shift, size, to, tc, T, lo, lc, L⟩) (S.set k (((i + 1 : Nat) : Int), (q : Int), ((q + m : Nat) : Int))) = P := ⟨_, rfl⟩
           have htr : trR (Tr.d ⟨days, shift, size, to, tc, T, lo, lc, L⟩) rm (S.set k (((i + 1 : Nat) : Int), (q : Int), ((q + m : Nat) : Int))) = trQ rm (S.set k (((i + 1 : Nat) : Int), (q : Int), ((q + m : Nat) : Int))) P := by rw [← hP]; exact trQ_of hf
           rw [htr] at hst
           rw [hP] at h26
           cases rm with
           | none =>
            dsimp only [trQ] at hst
            repeat'
             conv => whnf
             first
              | refine zA ?_ | refine zB ?_ | refine zC ?_ | refine zD ?_ | refine zE ?_ | refine zF ?_ | refine zG ?_ | refine zH ?_ | refine zJ ?_ | refine zI ?_ | refine splT ?_ | refine splF ?_ | refine splNot ?_
              | ((first | refine splIn ?_ ?_ | refine splD ?_ ?_ | refine splE ?_ ?_ | refine splNE ?_ ?_) <;> intro hc <;> first | (exfalso; omega) | (exfalso; dsimp only at hc; omega) | skip)
              | refine Exists.intro (α := List Value) X0 ⟨⟨hX0, fun w2 hw2 => hXe w2 hw2.1, hXo⟩, ?_⟩
              | refine And.intro hcnd ?_; rw [hset]
              | ((with_reducible show CallEv _ _ 25 _ _ _ _ _); refine callF [1] (fun z : Option Addr × Nat => sV 0 z) (fun _ _ => True) (fun β w' hbk hbw => (h25 β w' (by repeat (first | exact hbw | replace hbw := hbw.1)) (hbk 1 (by simp) _ rfl)).mono fun e w2 ⟨z, h1, h2, _⟩ => ⟨z, h1, h2, fun _ _ => trivial⟩) ?_; intro z)
              | ((with_reducible show CallEv _ _ 26 _ _ _ _ _); refine callM [1] (fun β w' hbk hbw => h26 β w' (by repeat (first | exact hbw | replace hbw := hbw.1)) (hbk 1 (by simp) _ rfl)) ?_)
            all_goals first | (exfalso; omega) | skip
            refine Dis.mk3 (w0 := w) id [1] rfl (fun i hi => by rw [List.mem_singleton] at hi; subst hi; exact ⟨_, rfl, rfl⟩) (fun w' h => (by repeat (first | exact h | replace h := h.1))) (fun β w1 hok hw1 hge => ⟨(m + 1, (some ⟨β 1, 0, none⟩, β 2)), ⟨by (show m + 1 ≤ M); omega, by (show M - (m + 1) < _); omega⟩, ⟨⟨_, rfl, rfl⟩, ⟨_, rfl, rfl⟩, ⟨_, rfl, rfl⟩, ⟨_, rfl, by rw [hst]; simp only [fvV, hSN]; exact congrArg (fun n => Value.slice (some ⟨β 1, 0, none⟩) n (β 2)) (Nat.zero_add _)⟩, ⟨_, rfl, by rw [hst]; rfl⟩, ⟨_, rfl, by rw [hst]; rfl⟩, ⟨_, rfl, rfl⟩, ⟨_, rfl, rfl⟩, ⟨_, rfl, by (show Value.int .i64 (((q + m : Nat) : Int) + 1) = iv ((q + (m + 1) : Nat) : Int)); rw [show ((q + m : Nat) : Int) + 1 = ((q + (m + 1) : Nat) : Int) from by omega]⟩, trivial⟩, ⟨zM rfl rfl, trivial⟩, rfl, fun w2 hw2 hLo => ⟨(by have h := hw2; repeat (first | exact h | replace h := h.1)), by rw [hst]; exact fs_own9 (hge 1 _ rfl rfl) hSN (hLo 1 (by simp) _ rfl)⟩⟩)
           | some b =>
            dsimp only [trQ] at hst
            obtain ⟨B, bm⟩ := b
            by_cases hlt : bm < P
            · rw [if_pos hlt] at hst
              rw [show fvM (some (B, bm)) = bm from rfl]
              repeat'
               conv => whnf
               first
                | refine zA ?_ | refine zB ?_ | refine zC ?_ | refine zD ?_ | refine zE ?_ | refine zF ?_ | refine zG ?_ | refine zH ?_ | refine zJ ?_ | refine zI ?_ | refine splT ?_ | refine splF ?_ | refine splNot ?_
                | ((first | refine splIn ?_ ?_ | refine splD ?_ ?_ | refine splE ?_ ?_ | refine splNE ?_ ?_) <;> intro hc <;> first | (exfalso; omega) | (exfalso; dsimp only at hc; omega) | skip)
                | refine Exists.intro (α := List Value) X0 ⟨⟨hX0, fun w2 hw2 => hXe w2 hw2.1, hXo⟩, ?_⟩
                | refine And.intro hcnd ?_; rw [hset]
                | ((with_reducible show CallEv _ _ 25 _ _ _ _ _); refine callF [1] (fun z : Option Addr × Nat => sV 0 z) (fun _ _ => True) (fun β w' hbk hbw => (h25 β w' (by repeat (first | exact hbw | replace hbw := hbw.1)) (hbk 1 (by simp) _ rfl)).mono fun e w2 ⟨z, h1, h2, _⟩ => ⟨z, h1, h2, fun _ _ => trivial⟩) ?_; intro z)
                | ((with_reducible show CallEv _ _ 26 _ _ _ _ _); refine callM [1] (fun β w' hbk hbw => h26 β w' (by repeat (first | exact hbw | replace hbw := hbw.1)) (hbk 1 (by simp) _ rfl)) ?_)
              all_goals first | (exfalso; omega) | skip
              refine Dis.mk3 (w0 := w) id [1] rfl (fun i hi => by rw [List.mem_singleton] at hi; subst hi; exact ⟨_, rfl, rfl⟩) (fun w' h => (by repeat (first | exact h | replace h := h.1))) (fun β w1 hok hw1 hge => ⟨(m + 1, (some ⟨β 1, 0, none⟩, β 2)), ⟨by (show m + 1 ≤ M); omega, by (show M - (m + 1) < _); omega⟩, ⟨⟨_, rfl, rfl⟩, ⟨_, rfl, rfl⟩, ⟨_, rfl, rfl⟩, ⟨_, rfl, by rw [hst]; simp only [fvV, hSN]; exact congrArg (fun n => Value.slice (some ⟨β 1, 0, none⟩) n (β 2)) (Nat.zero_add _)⟩, ⟨_, rfl, by rw [hst]; rfl⟩, ⟨_, rfl, by rw [hst]; rfl⟩, ⟨_, rfl, rfl⟩, ⟨_, rfl, rfl⟩, ⟨_, rfl, by (show Value.int .i64 (((q + m : Nat) : Int) + 1) = iv ((q + (m + 1) : Nat) : Int)); rw [show ((q + m : Nat) : Int) + 1 = ((q + (m + 1) : Nat) : Int) from by omega]⟩, trivial⟩, ⟨zM rfl rfl, trivial⟩, rfl, fun w2 hw2 hLo => ⟨(by have h := hw2; repeat (first | exact h | replace h := h.1)), by rw [hst]; exact fs_own9 (hge 1 _ rfl rfl) hSN (hLo 1 (by simp) _ rfl)⟩⟩)
            · rw [if_neg hlt] at hst
              rw [show fvM (some (B, bm)) = bm from rfl]
              repeat'
               conv => whnf
               first
                | refine zA ?_ | refine zB ?_ | refine zC ?_ | refine zD ?_ | refine zE ?_ | refine zF ?_ | refine zG ?_ | refine zH ?_ | refine zJ ?_ | refine zI ?_ | refine splT ?_ | refine splF ?_ | refine splNot ?_
                | ((first | refine splIn ?_ ?_ | refine splD ?_ ?_ | refine splE ?_ ?_ | refine splNE ?_ ?_) <;> intro hc <;> first | (exfalso; omega) | (exfalso; dsimp only at hc; omega) | skip)
                | refine Exists.intro (α := List Value) X0 ⟨⟨hX0, fun w2 hw2 => hXe w2 hw2.1, hXo⟩, ?_⟩
                | refine And.intro hcnd ?_; rw [hset]
                | ((with_reducible show CallEv _ _ 25 _ _ _ _ _); refine callF [1] (fun z : Option Addr × Nat => sV 0 z) (fun _ _ => True) (fun β w' hbk hbw => (h25 β w' (by repeat (first | exact hbw | replace hbw := hbw.1)) (hbk 1 (by simp) _ rfl)).mono fun e w2 ⟨z, h1, h2, _⟩ => ⟨z, h1, h2, fun _ _ => trivial⟩) ?_; intro z)
                | ((with_reducible show CallEv _ _ 26 _ _ _ _ _); refine callM [1] (fun β w' hbk hbw => h26 β w' (by repeat (first | exact hbw | replace hbw := hbw.1)) (hbk 1 (by simp) _ rfl)) ?_)
              all_goals first | (exfalso; omega) | skip
              refine Dis.mk3 (w0 := w) id [1] rfl (fun i hi => by rw [List.mem_singleton] at hi; subst hi; exact ⟨_, rfl, rfl⟩) (fun w' h => (by repeat (first | exact h | replace h := h.1))) (fun β w1 hok hw1 hge => ⟨(m + 1, y), ⟨by (show m + 1 ≤ M); omega, by (show M - (m + 1) < _); omega⟩, ⟨⟨_, rfl, rfl⟩, ⟨_, rfl, rfl⟩, ⟨_, rfl, rfl⟩, ⟨_, rfl, by rw [hst]; rfl⟩, ⟨_, rfl, by rw [hst]; rfl⟩, ⟨_, rfl, by rw [hst]; rfl⟩, ⟨_, rfl, rfl⟩, ⟨_, rfl, rfl⟩, ⟨_, rfl, by (show Value.int .i64 (((q + m : Nat) : Int) + 1) = iv ((q + (m + 1) : Nat) : Int)); rw [show ((q + m : Nat) : Int) + 1 = ((q + (m + 1) : Nat) : Int) from by omega]⟩, trivial⟩, ⟨zM rfl rfl, trivial⟩, rfl, fun w2 hw2 hLo => ⟨(by have h := hw2; repeat (first | exact h | replace h := h.1)), by rw [hst]; exact (by have h := hw2; repeat (first | exact h.2 | replace h := h.1))⟩⟩)
         · have htr : trR (Tr.d ⟨days, shift, size, to, tc, T, lo, lc, L⟩) rm (S.set k (((i + 1 : Nat) : Int), (q : Int), ((q + m : Nat) : Int))) = rm := by unfold trR; rw [if_neg hf]
           rw [htr] at hst
           have hfl : 1 ≤ (fsO (Tr.d ⟨days, shift, size, to, tc, T, lo, lc, L⟩) (S.set k (((i + 1 : Nat) : Int), (q : Int), ((q + m : Nat) : Int)))).length := by
            cases hc : fsO (Tr.d ⟨days, shift, size, to, tc, T, lo, lc, L⟩) (S.set k (((i + 1 : Nat) : Int), (q : Int), ((q + m : Nat) : Int))) with
            | nil => exact absurd hc hf
            | cons a l => simp
           have hfl2 := fsP_len (Tr.d ⟨days, shift, size, to, tc, T, lo, lc, L⟩) (S.set k (((i + 1 : Nat) : Int), (q : Int), ((q + m : Nat) : Int))) (S.set k (((i + 1 : Nat) : Int), (q : Int), ((q + m : Nat) : Int))).length
           change (fsO (Tr.d ⟨days, shift, size, to, tc, T, lo, lc, L⟩) (S.set k (((i + 1 : Nat) : Int), (q : Int), ((q + m : Nat) : Int)))).length ≤ _ at hfl2
           generalize fsO (Tr.d ⟨days, shift, size, to, tc, T, lo, lc, L⟩) (S.set k (((i + 1 : Nat) : Int), (q : Int), ((q + m : Nat) : Int))) = F at *
           repeat'
            conv => whnf
            first
             | refine zA ?_ | refine zB ?_ | refine zC ?_ | refine zD ?_ | refine zE ?_ | refine zF ?_ | refine zG ?_ | refine zH ?_ | refine zJ ?_ | refine zI ?_ | refine splT ?_ | refine splF ?_ | refine splNot ?_
             | ((first | refine splIn ?_ ?_ | refine splD ?_ ?_ | refine splE ?_ ?_ | refine splNE ?_ ?_) <;> intro hc <;> first | (exfalso; omega) | (exfalso; dsimp only at hc; omega) | skip)
             | refine Exists.intro (α := List Value) X0 ⟨⟨hX0, fun w2 hw2 => hXe w2 hw2.1, hXo⟩, ?_⟩
             | refine And.intro hcnd ?_; rw [hset]
             | ((with_reducible show CallEv _ _ 25 _ _ _ _ _); refine callF [1] (fun z : Option Addr × Nat => sV F.length z) (fun _ _ => True) (fun β w' hbk hbw => (h25 β w' (by repeat (first | exact hbw | replace hbw := hbw.1)) (hbk 1 (by simp) _ rfl)).mono fun e w2 ⟨z, h1, h2, _⟩ => ⟨z, h1, h2, fun _ _ => trivial⟩) ?_; intro z)
           all_goals first | (exfalso; omega) | skip
           refine Dis.mk3 (w0 := w) id [1] rfl (fun i hi => by rw [List.mem_singleton] at hi; subst hi; exact ⟨_, rfl, rfl⟩) (fun w' h => (by repeat (first | exact h | replace h := h.1))) (fun β w1 hok hw1 hge => ⟨(m + 1, y), ⟨by (show m + 1 ≤ M); omega, by (show M - (m + 1) < _); omega⟩, ⟨⟨_, rfl, rfl⟩, ⟨_, rfl, rfl⟩, ⟨_, rfl, rfl⟩, ⟨_, rfl, by rw [hst]; rfl⟩, ⟨_, rfl, by rw [hst]; rfl⟩, ⟨_, rfl, by rw [hst]; rfl⟩, ⟨_, rfl, rfl⟩, ⟨_, rfl, rfl⟩, ⟨_, rfl, by (show Value.int .i64 (((q + m : Nat) : Int) + 1) = iv ((q + (m + 1) : Nat) : Int)); rw [show ((q + m : Nat) : Int) + 1 = ((q + (m + 1) : Nat) : Int) from by omega]⟩, trivial⟩, ⟨zM rfl rfl, trivial⟩, rfl, fun w2 hw2 hLo => ⟨(by have h := hw2; repeat (first | exact h | replace h := h.1)), by rw [hst]; exact (by have h := hw2; repeat (first | exact h.2 | replace h := h.1))⟩⟩)
       · obtain rfl : m = M := by omega
         repeat'
          conv => whnf
          first
           | refine zA ?_ | refine zB ?_ | refine zC ?_ | refine zD ?_ | refine zE ?_ | refine zF ?_ | refine zG ?_ | refine zH ?_ | refine zJ ?_ | refine zI ?_ | refine splT ?_ | refine splF ?_ | refine splNot ?_
           | ((first | refine splIn ?_ ?_ | refine splD ?_ ?_ | refine splE ?_ ?_ | refine splNE ?_ ?_) <;> intro hc <;> first | (exfalso; omega) | (exfalso; dsimp only at hc; omega) | skip)
         all_goals first | (exfalso; omega) | skip
         refine Dis.mk3 (w0 := w) id [] rfl (fun i hi => by cases hi) (fun w' h => (by repeat (first | exact h | replace h := h.1))) (fun β w1 hok hw1 hge => ⟨(q + 1, y), ⟨by (show q + 1 ≤ _); omega, by (show _ - (q + 1) < _); omega⟩, ⟨⟨_, rfl, rfl⟩, ⟨_, rfl, rfl⟩, ⟨_, rfl, rfl⟩, ⟨_, rfl, by rw [hRn]; rfl⟩, ⟨_, rfl, by rw [hRn]; rfl⟩, ⟨_, rfl, by rw [hRn]; rfl⟩, ⟨_, rfl, rfl⟩, ⟨_, rfl, rfl⟩, trivial⟩, ⟨zM rfl rfl, trivial⟩, rfl, fun w2 hw2 _ => by rw [hRn]; exact hw2⟩)
     · obtain rfl : q = days.toNat := by omega
       repeat'
        conv => whnf
        first
         | refine zA ?_ | refine zB ?_ | refine zC ?_ | refine zD ?_ | refine zE ?_ | refine zF ?_ | refine zG ?_ | refine zH ?_ | refine zJ ?_ | refine zI ?_ | refine splT ?_ | refine splF ?_ | refine splNot ?_
         | ((first | refine splIn ?_ ?_ | refine splD ?_ ?_ | refine splE ?_ ?_ | refine splNE ?_ ?_) <;> intro hc <;> first | (exfalso; omega) | (exfalso; dsimp only at hc; omega) | skip)
       all_goals first | (exfalso; omega) | skip
       refine Dis.mk3 (w0 := w) id [] rfl (fun i hi => by cases hi) (fun w' h => (by repeat (first | exact h | replace h := h.1))) (fun β w1 hok hw1 hge => ⟨(i + 1, y), ⟨by (show i + 1 ≤ _); omega, by (show _ - (i + 1) < _); omega⟩, ⟨⟨_, rfl, rfl⟩, ⟨_, rfl, rfl⟩, ⟨_, rfl, rfl⟩, ⟨_, rfl, by rw [hRi]; rfl⟩, ⟨_, rfl, by rw [hRi]; rfl⟩, ⟨_, rfl, by rw [hRi]; rfl⟩, ⟨_, rfl, rfl⟩, trivial⟩, ⟨zM rfl rfl, trivial⟩, rfl, fun w2 hw2 _ => by rw [hRi]; exact hw2⟩)
 · obtain rfl : i = T.length - 1 := by omega
   rw [← hrO]
   have hsn := fs_spn hn hF
   rw [hlT] at hsn
   have hp1 := pf_bd hn hF hl
   have hok := rpN_ok (x := (Tr.d ⟨days, shift, size, to, tc, T, lo, lc, L⟩)) (n := S.length) (m := (Tr.d ⟨days, shift, size, to, tc, T, lo, lc, L⟩).T.length - 1) (k := k) (S := S) (Nat.le_refl _)
   change FOk (Tr.d ⟨days, shift, size, to, tc, T, lo, lc, L⟩) S.length (rpO (Tr.d ⟨days, shift, size, to, tc, T, lo, lc, L⟩) S k) at hok
   have hb2 : -300000000 ≤ fvM (rpO (Tr.d ⟨days, shift, size, to, tc, T, lo, lc, L⟩) S k) ∧ fvM (rpO (Tr.d ⟨days, shift, size, to, tc, T, lo, lc, L⟩) S k) ≤ 300000000 := by
    cases hr : (rpO (Tr.d ⟨days, shift, size, to, tc, T, lo, lc, L⟩) S k) with
    | none => simp [fvM]
    | some b =>
     obtain ⟨g1, g2, g3⟩ := hok b hr
     have := pf_bd hn g1 (by omega)
     show -300000000 ≤ b.2 ∧ b.2 ≤ 300000000
     omega
   have h26 := fun w' (hb : Below w.heap.size w w') => rprofit_ok ⟨days, shift, size, to, tc, T, lo, lc, L⟩ (some ad) c S w' (h.below hb) hn (hSr w' hb) hl hsn
   generalize pfO (Tr.d ⟨days, shift, size, to, tc, T, lo, lc, L⟩) S = P at *
   generalize (rpO (Tr.d ⟨days, shift, size, to, tc, T, lo, lc, L⟩) S k) = R at *
   repeat'
    conv => whnf
    first
     | refine zA ?_ | refine zB ?_ | refine zC ?_ | refine zD ?_ | refine zE ?_ | refine zF ?_ | refine zG ?_ | refine zH ?_ | refine zJ ?_ | refine zI ?_ | refine splT ?_ | refine splF ?_ | refine splNot ?_
     | ((first | refine splIn ?_ ?_ | refine splD ?_ ?_ | refine splE ?_ ?_ | refine splNE ?_ ?_) <;> intro hc <;> first | (exfalso; omega) | (exfalso; dsimp only at hc; omega) | skip)
     | ((with_reducible show CallEv _ _ 26 _ _ _ _ _); refine callE (k := 26) (fun β w' hbw => h26 w' (by repeat (first | exact hbw | replace hbw := hbw.1))) ?_)
   all_goals first | (exfalso; omega) | exact ⟨fun w' h => h.1, fun β w' hB hblk => ⟨y, rfl, hB.2⟩⟩
set_option maxHeartbeats 4000000 in
set_option maxRecDepth 100000 in
theorem rreplace_ok (x : Tr) (o : Option Addr) (c : Nat) (S : List (Int × Int × Int)) (k : Nat) (w : World) (h : TrIn x w) (hn : ToN x.d) (hS : SpIn o c S w) (hN : neB S = true) (hl : S.length ≤ 20) (hk : k < S.length) (hF : fsO x.d S = []) :
 Calls Try.prog 47 #[x.v, .slice o S.length c, iv k] w fun e w' => ∃ y : Option Addr × Nat, e = .returned (.tuple #[fvV (rpO x.d S k) y, iv (fvM (rpO x.d S k) - pfO x.d S), .bool (rpO x.d S k).isSome]) ∧ Below w.heap.size w w' ∧ St w.heap.size (FS (rpO x.d S k) y) w' := by
 obtain ⟨_, ad, rfl, _⟩ := hS.r.ptr (by omega)
 obtain ⟨days, shift, size, to, tc, T, lo, lc, L⟩ := x
 exact calls_famV env mixed Try.func47 has47 (nt := 103) Try.ntmps47 [.agg #[iv days, iv shift, iv size, .slice to T.length tc, .slice lo L.length lc], .slice (some ad) S.length c, iv k] (by simp) (Rr2 days shift size to tc T lo lc L _ ad c S k w h hn hS hl hk hF rfl fun y => Rr5 days shift size to tc T lo lc L _ ad c S k w h hn hS hl hk hF rfl hN y (Rr6 days shift size to tc T lo lc L _ ad c S k w h hn hS hl hk hF rfl hN y))
end Go.Proofs.Ythfabodamhdhaaa
