/- Part 3 of the proof: texts merged. -/
import Derived.Test.YtkbfcofifhngfaaGreatXEb
import Derived.Maps.AppendAt
import Derived.Laws.OwnMore
import Derived.WalkSpells
import Derived.ChangeKeysEq
import Derived.Laws.CopyRow
import Derived.Laws.StructEq
set_option maxHeartbeats 8000000
set_option maxRecDepth 100000
set_option linter.unusedSectionVars false
set_option linter.unusedSimpArgs false
set_option linter.unusedVariables false
namespace Go.Proofs.YtkbfcofifhngfaaGreat
open Go Tx Go.RowKit
theorem list_nil (c : Nat) (w : World) : Calls Tryz.prog 49 #[.slice none 0 0] w fun e w' => e = .returned (.slice none 0 0) ∧ Below w.heap.size w w' := by
 refine calls_val env mixed Tryz.func49 has49 Tryz.ntmps49 [.slice none 0 0] (by simp) ?_
 repeat'
  conv => whnf
  first
   |refine zB ?_
 all_goals exact ⟨fun β => rfl, fun w' h => h⟩
theorem list_own (A : List Int) (o : Option Addr) (c : Nat) (w : World) (hrd : Rd 1 iF (.slice o A.length c) A w) (h0 : A ≠ []) (hl : A.length ≤ 1000000) :
 Calls Tryz.prog 49 #[.slice o A.length c] w fun e w' => ∃ b d, e = .returned (.slice (some ⟨b, 0, none⟩) A.length d) ∧ w.heap.size ≤ b ∧ Below w.heap.size w w' ∧ w'.ownsRow 0 3 1 (.slice (some ⟨b, 0, none⟩) A.length d) A.length (A.flatMap iF) := by
 refine calls_fam2 env mixed Tryz.func49 has49 Tryz.ntmps49 [.slice o A.length c] (by simp) ?_
 have hp : 1 ≤ A.length := by cases A with | nil => exact absurd rfl h0 | cons a A => simp
 obtain ⟨_, ad, rfl, _⟩ := hrd.ptr hp
 have he := fun (w' : World) (hb : Below w.heap.size w w') => Rd.ext (f := iF) (sz := 1) (fun _ => rfl) (hrd.below hb)
 have hln : (A.flatMap iF).length = A.length * 1 := by rw [lenF, Nat.mul_one]
 have hon := one1 A
 generalize A.flatMap iF = X at *
 generalize A.length = n at *
 repeat'
  conv => whnf
  first
   |refine zB ?_|refine zI ?_
   |refine eL X ⟨⟨hln, fun w' hw' => he w' hw', hon⟩, ?_⟩
 have hz : 0 + n = n := Nat.zero_add n
 exact ⟨fun w' h => h, fun β w' hB hB2 hblk => ⟨β 0, β 1, congrArg (fun z => Ending.returned (.slice (some ⟨β 0, 0, none⟩) z (β 1))) hz, (hblk 0 _ rfl rfl).1, hB2, by have := (hblk 0 _ rfl rfl).2; simp only [Blk.ok, List.nil_append, hz] at this; exact this⟩⟩
theorem list_ext (ad : Addr) (c : Nat) (w : World) : Calls Tryz.prog 49 #[.slice (some ad) 0 c] w fun e w' => e = .returned (.slice none 0 0) ∧ Below w.heap.size w w' := by
 refine callsIn_wide.1 (?_ : CallsIn Fence.wide 5 Tryz.prog 49 _ w _)
 refine callsIn_of_wp_marks Tryz.func49 rfl trivial ?_ rfl
 simp only [Tryz.ntmps49, List.size_toArray, List.length_cons, List.length_nil, Nat.reduceAdd, Nat.reduceSub, Array.replicate_succ, Array.replicate_zero, List.push_toArray, List.append_toArray, List.nil_append, List.cons_append]
 gi_wp2
 have h0 : Tryz.f49.results = #[.tmp 2] := by kernel_rfl
 exact ⟨_, by simp only [results, h0]; simp [Sem.run_bind, Sem.run_map, Sem.run_pure], rfl, Below.refl _ w⟩
theorem list_none (o : Option Addr) (c : Nat) (w : World) (h : Rd 1 iF (.slice o 0 c) [] w) : Calls Tryz.prog 49 #[.slice o 0 c] w fun e w' => e = .returned (.slice none 0 0) ∧ Below w.heap.size w w' := by
 rcases h with ⟨h, _⟩ | ⟨ad, d, h, _⟩
 · rw [h]; exact list_nil 0 w
 · rw [h]; exact list_ext ad d w
theorem list_fam (A : List Int) (o : Option Addr) (c : Nat) (w : World) (hrd : Rd 1 iF (.slice o A.length c) A w) (hl : A.length ≤ 1000000) :
 Calls Tryz.prog 49 #[.slice o A.length c] w fun e w' => ∃ y : Option Addr × Nat, e = .returned (sV A.length y) ∧ Below w.heap.size w w' ∧ St w.heap.size (Rd 1 iF (sV A.length y) A) w' := by
 cases A with
 | nil =>
  exact (list_none o c w hrd).mono fun e w' ⟨h1, h2⟩ => ⟨(none, 0), h1, h2, fun _ _ => .inl ⟨rfl, rfl⟩⟩
 | cons a A =>
  exact (list_own (a :: A) o c w hrd (by simp) hl).mono fun e w' ⟨b, d, h1, h2, h3, h4⟩ => ⟨(some ⟨b, 0, none⟩, d), h1, h3, own_st (f := iF) (fun _ => rfl) h2 rfl h4⟩
structure Rws (CC : List (List Int)) where
 o : Option Addr
 c : Nat
 C : List Rw
 h : C.map Rw.xs = CC
abbrev Rws.v {CC : List (List Int)} (y : Rws CC) : Value := .slice y.o y.C.length y.c
def Rws.In {CC : List (List Int)} (y : Rws CC) (w : World) : Prop := Rd 1 Rw.cs (.slice y.o y.C.length y.c) y.C w ∧ RR y.C w
theorem rows_ok (C : List Rw) (o : Option Addr) (c : Nat) (w : World) (hrd : Rd 1 Rw.cs (.slice o C.length c) C w) (hR : RR C w) (hl : C.length ≤ 1000000) (hrl : ∀ r ∈ C, r.xs.length ≤ 1000000) :
 Calls Tryz.prog 48 #[.slice o C.length c] w fun e w' => ∃ y : Rws (C.map Rw.xs), e = .returned y.v ∧ Below w.heap.size w w' ∧ St w.heap.size y.In w' := by
 refine calls_fam env mixed Tryz.func48 has48 Tryz.ntmps48 [.slice o C.length c] (by simp) ?_
 skip
 refine loopH 2 (fun D : List Rw => [(0, .v (.slice o C.length c)), (3, oSV 0 1 D), (4, .v (iv D.length))]) (fun D => oM 0 1 1 Rw.cs 36 D)
  (fun D w' => Below w.heap.size w w' ∧ ∀ r ∈ D, St w.heap.size (Rd 1 iF (.slice r.o r.xs.length r.c) r.xs) w')
  (fun D => D.length ≤ C.length ∧ D.map Rw.xs = (C.map Rw.xs).take D.length) (fun D => C.length - D.length) [] ⟨Nat.zero_le _, rfl⟩ ⟨rfl, rfl, rfl, trivial⟩ trivial (fun w' h => ⟨h, fun r hr => by cases hr⟩) (fun D _ => by cases D <;> exact ⟨rfl, rfl⟩) ?_
 intro D ⟨hk, hmap⟩
 rcases Nat.lt_or_ge D.length C.length with hkl | hkl
 · obtain ⟨⟨ro, rc, xs⟩, hx⟩ : ∃ b, C[D.length]? = some b := ⟨_, List.getElem?_eq_getElem hkl⟩
   obtain ⟨_, ad, rfl, _⟩ := hrd.ptr (by omega)
   have e0 := fun (w' : World) hw' => rd_ati (hrd.below (w' := w') hw') hx
   have hr := hR _ (List.mem_of_getElem? hx)
   have hrb := hrl _ (List.mem_of_getElem? hx)
   change Rd 1 iF (.slice ro xs.length rc) xs w at hr
   dsimp only at hrb
   have hm : (C.map Rw.xs)[D.length]? = some xs := by rw [List.getElem?_map, hx]; rfl
   have hnew : ∀ y : Option Addr × Nat, (D ++ [(⟨y.1, y.2, xs⟩ : Rw)]).map Rw.xs = (C.map Rw.xs).take (D ++ [(⟨y.1, y.2, xs⟩ : Rw)]).length := fun y => by
    rw [List.map_append, hmap, List.length_append, List.length_singleton, List.take_add_one, hm]; rfl
   have hl2 : ∀ y : Option Addr × Nat, (D ++ [(⟨y.1, y.2, xs⟩ : Rw)]).length = D.length + 1 := fun y => by simp
   have hh : ∀ (y : Option Addr × Nat) w', ((Below w.heap.size w w' ∧ ∀ r ∈ D, St w.heap.size (Rd 1 iF (.slice r.o r.xs.length r.c) r.xs) w') ∧ St w.heap.size (Rd 1 iF (.slice y.1 xs.length y.2) xs) w') →
    Below w.heap.size w w' ∧ ∀ r ∈ D ++ [(⟨y.1, y.2, xs⟩ : Rw)], St w.heap.size (Rd 1 iF (.slice r.o r.xs.length r.c) r.xs) w' := fun y w' h => ⟨h.1.1, fun r hr => by
    rcases List.mem_append.1 hr with hr | hr
    · exact h.1.2 r hr
    · rw [List.mem_singleton] at hr; subst hr; exact h.2⟩
   generalize hn : D.length = n at *
   cases D with
   | nil =>
    repeat'
     conv => whnf
     first
      |refine zB ?_|refine zD ?_|refine zF ?_|refine zG ?_|refine zI ?_
      |(refine splD ?_ ?_ <;> intro hc <;> first|(exfalso; omega)|skip)
      |refine eL [.slice ro xs.length rc] ⟨⟨rfl, fun w' hw' => e0 w' hw'.1⟩, ?_⟩
      |((with_reducible show CallEv _ _ 49 ..); refine callF [] (fun y : Option Addr × Nat => sV xs.length y) (fun y => St w.heap.size (Rd 1 iF (.slice y.1 xs.length y.2) xs)) (fun β w' _ hbw => famS (by repeat (first | exact hbw | replace hbw := hbw.1)) (list_fam xs ro rc w' (hr.below (by repeat (first | exact hbw | replace hbw := hbw.1))) hrb)) ?_; intro y)
    exact ⟨[(⟨y.1, y.2, xs⟩ : Rw)], ⟨by have := hl2 y; simp only [List.nil_append] at this; omega, hnew y⟩, by have := hl2 y; simp only [List.nil_append] at this; omega, Ent.ren (rho [(0, 3), (1, 4)]) rfl rfl ⟨rfl, rfl, by rw [← hn]; rfl, trivial⟩ ⟨rfl, trivial⟩ (hh y)⟩
   | cons a D =>
    simp only [List.length_cons] at hn
    repeat'
     conv => whnf
     first
      |refine zB ?_|refine zD ?_|refine zF ?_|refine zG ?_|refine zH ?_|refine zI ?_
      |(refine splD ?_ ?_ <;> intro hc <;> first|(exfalso; omega)|skip)
      |refine eL [.slice ro xs.length rc] ⟨⟨rfl, fun w' hw' => e0 w' hw'.1⟩, ?_⟩
      |((with_reducible show CallEv _ _ 49 ..); refine callF [] (fun y : Option Addr × Nat => sV xs.length y) (fun y => St w.heap.size (Rd 1 iF (.slice y.1 xs.length y.2) xs)) (fun β w' _ hbw => famS (by repeat (first | exact hbw | replace hbw := hbw.1)) (list_fam xs ro rc w' (hr.below (by repeat (first | exact hbw | replace hbw := hbw.1))) hrb)) ?_; intro y)
    exact ⟨a :: D ++ [(⟨y.1, y.2, xs⟩ : Rw)], ⟨by have := hl2 y; omega, hnew y⟩, by have := hl2 y; omega, Ent.ren (rho [(0, 3), (1, 4)]) rfl rfl ⟨rfl, by simp [oSV]; rfl, by rw [← hn]; simp; rfl, trivial⟩ ⟨by simp [oM]; rfl, trivial⟩ (hh y)⟩
 · have hk2 : D.length = C.length := by omega
   rw [hk2, List.take_of_length_le (Nat.le_of_eq (List.length_map ..))] at hmap
   cases D with
   | nil =>
    repeat'
     conv => whnf
     first
      |(refine splD ?_ ?_ <;> intro hc <;> first|(exfalso; omega)|skip)
    exact ⟨fun w' h => h.1, fun β w' hB hblk => ⟨⟨none, 0, [], hmap⟩, rfl, fun w2 k2 => ⟨.inl ⟨rfl, rfl⟩, fun r hr => by cases hr⟩⟩⟩
   | cons a L =>
    repeat'
     conv => whnf
     first
      |(refine splD ?_ ?_ <;> intro hc <;> first|(exfalso; omega)|skip)
    refine ⟨fun w' h => h.1, fun β w' hB hblk => ?_⟩
    obtain ⟨y, h1, h2⟩ := oEnd (sz := 1) (f := Rw.cs) (fun _ => rfl) a L (hblk 0 _ rfl rfl)
    exact ⟨⟨y.1, y.2, a :: L, hmap⟩, h1, fun w2 k2 => ⟨h2 w2 k2, fun r hr => hB.2 r hr w2 k2⟩⟩
end Go.Proofs.YtkbfcofifhngfaaGreat
namespace Go.Proofs.YtkbfcofifhngfaaGreat.Tx
open Go Go.RowKit
theorem Sat'.dof {X : Cx} {σ : Sg} {β : Nat → Nat} {D : Nat → Prop} {a : Act} {w : World} (hs : Sat' X σ β D a w) {b : Nat} (hk : ∀ w, σ.h w → ∃ cs ty fr, w.heap[b]? = some (.cells cs ty fr)) : D b := by
 refine Classical.byContradiction fun hD => ?_
 have hlt : b < w.heap.size := by
  obtain ⟨cs, ty, fr, h⟩ := hk w (hs.h w (Chg.refl _ _))
  exact (Array.getElem?_eq_some_iff.1 h).1
 have h2 := hs.h (w.putObj b (.deferred none)) ⟨rfl, rfl, rfl, Nat.le_of_eq World.putObj_size.symm, fun i hi hn => (World.putObj_heap_other (fun e => hn (e ▸ hD)))⟩
 obtain ⟨cs, ty, fr, h3⟩ := hk _ h2
 rw [World.putObj_heap_same hlt] at h3
 cases h3
theorem setCell_other {w : World} {ad : Addr} {v : Value} {b : Nat} (h : b ≠ ad.block) : (w.setCell ad v).heap[b]? = w.heap[b]? := by
 simp only [World.setCell, Array.getElem?_modify]
 rw [if_neg (fun e => h e.symm)]
theorem setCell_at {w : World} {ad : Addr} {v : Value} {cs : Array Value} {ty : TypeId} {fr : Nat × Nat} (h : w.heap[ad.block]? = some (.cells cs ty fr)) (hsp : ad.spot = none) : (w.setCell ad v).heap[ad.block]? = some (.cells (cs.setIfInBounds ad.off v) ty fr) := by
 simp only [World.setCell, Array.getElem?_modify, if_true, h, Option.map_some, hsp]
 rfl
theorem setCell_size {w : World} {ad : Addr} {v : Value} : (w.setCell ad v).heap.size = w.heap.size := by simp [World.setCell]
theorem stF {P : Program} (T : Env P) {dst : Option Tmp} {ty t : TypeId} {pos : String} {after : Array Edge} {gd : Option (Nat × Bool)} {gs : List Nat} {σ : Sg} {K : Ef → Prop} {ks : KT} {x y : Operand} {ad : Addr} {v : Value} {ti : TI}
 (hx : gv σ x = some (.v (.pointer (some ad)))) (hy : gv σ y = some (.v v)) (ht : T.ty t = some ti) (hsz : ti.size = 1) (hv : v.cells = #[v]) (hv1 : v.oneCell' = true) (hsp : ad.spot = none) (h' : World → Prop)
 (hold : ∀ w, σ.h w → (∃ cs ty fr, w.heap[ad.block]? = some (.cells cs ty fr) ∧ ad.off < cs.size) ∧ w.frozen? ad = false) (hnew : ∀ w, σ.h w → h' (w.setCell ad v)) (hK : ks (.v undef) ⟨σ.nt, σ.t, σ.m, σ.nb, h', σ.z⟩) :
 OpEvS P ⟨dst, .store t x y, ty, pos, after, gd⟩ gs σ K (some ks) := by
 refine .sk ks rfl rfl fun X β D a w hok hs => ?_
 have hb : D ad.block := hs.dof fun w hw => by obtain ⟨⟨cs, ty, fr, h, _⟩, _⟩ := hold w hw; exact ⟨cs, ty, fr, h⟩
 have hw := hs.h w (Chg.refl _ _)
 obtain ⟨⟨cs, ty', fr, h1, h2⟩, h3⟩ := hold w hw
 have hm := setCell_at (v := v) h1 hsp
 refine ⟨⟨σ.nt, σ.t, σ.m, σ.nb, h', σ.z⟩, β, D, w.setCell ad v, ?_, hK, ⟨⟨hok.wf.t, hok.wf.g, hok.wf.m⟩, hok.lt⟩, rfl, ?_⟩
 · have hse := hs.sees ⟨.v undef, [], [], os x ++ os y, []⟩
   have e1 := gv_eval hse hx (fun k hk => by simp [hk])
   have e2 := gv_eval hse hy (fun k hk => by simp [hk])
   have htok := T.tok t ti ht
   have hcell : ∃ u, w.cell? ad = some u := ⟨cs[ad.off], by simp only [World.cell?, h1, hsp]; simp [h2]⟩
   obtain ⟨u, hcell⟩ := hcell
   have hadd : ad.add 0 = ad := by simp [Addr.add]
   have hst : (store ad v).run P w = .ok () (w.setCell ad v) := by
    rw [run_store P w _ v _ hv1, hcell]
    simp [h3]
   simp only [execOp, Instr.storeAt, Instr.sureAddr, e1, e2, SV.c, Sem.run_bind, Sem.run_pure, Result.andThen_ok, storeVar, htok.run_sizeOf w, hsz, hv, List.size_toArray, List.length_singleton, ne_eq, not_true_eq_false, if_false, storeCells, hadd, hst]
 · have hkeep : ∀ (b : Nat) (o : Obj), w.heap[b]? = some o → Other o → (w.setCell ad v).heap[b]? = some o := fun b o hbo hot => by
    rw [setCell_other (fun e => by subst e; rw [h1, Option.some.injEq] at hbo; subst hbo; exact hot trivial)]
    exact hbo
   refine ⟨?_, hs.size, hs.t, fun i b hi => ?_, hs.inj, hs.out, fun b hb' => by rw [setCell_size]; exact hs.dlt b hb', fun w2 hc => ?_, hs.amb.keep (fun _ _ _ => rfl) hkeep (fun _ _ h => h)⟩
   · obtain ⟨l, l1, l2, l3⟩ := hs.defers
     exact ⟨l, l1, l2, fun d hd => ⟨hkeep _ _ (l3 d hd).1 (fun h => h), (l3 d hd).2⟩⟩
   · exact Blk.ok_congr (fr := []) (fun _ _ => rfl) b (Blk.av_nil b) (fun hl => setCell_other fun e => hs.out i b hi hl (e ▸ hb)) (hs.m i b hi)
   · let w1 : World := w2.putObj ad.block (.cells cs ty' fr)
     have hl2 : ad.block < w2.heap.size := Nat.lt_of_lt_of_le (Array.getElem?_eq_some_iff.1 hm).1 hc.size
     have e1 : w1.heap[ad.block]? = some (.cells cs ty' fr) := World.putObj_heap_same hl2
     have hsz2 : w.heap.size ≤ w2.heap.size := by have := hc.size; rw [setCell_size] at this; exact this
     have hw1 : σ.h w1 := hs.h w1 ⟨hc.os, hc.tape, hc.output, Nat.le_trans hsz2 (Nat.le_of_eq World.putObj_size.symm), fun b hlt hn => by
      by_cases hbe : b = ad.block
      · subst hbe; rw [e1, h1]
      · show (w2.putObj ad.block _).heap[b]? = _
        rw [World.putObj_heap_other hbe, hc.same b (by rw [setCell_size]; exact hlt) hn, setCell_other hbe]⟩
     have hfin : w1.setCell ad v = w2 := by
      have e4 := setCell_at (v := v) e1 hsp
      have e5 : w2.heap[ad.block]? = some (.cells (cs.setIfInBounds ad.off v) ty' fr) := by
       rw [hc.same _ (by rw [setCell_size]; exact (Array.getElem?_eq_some_iff.1 h1).1) (fun h => h hb)]; exact hm
      have e6 : (w1.setCell ad v).heap = w2.heap := Array.ext_getElem? fun i => by
       by_cases hi : i = ad.block
       · subst hi; rw [e4, e5]
       · rw [setCell_other hi]; exact World.putObj_heap_other hi
      have e7 : w1.setCell ad v = { w2 with heap := (w1.setCell ad v).heap } := rfl
      rw [e7, e6]
     rw [← hfin]
     exact hnew w1 hw1
theorem slHi {P : Program} (T : Env P) {dst : Option Tmp} {ty : TypeId} {pos : String} {after : Array Edge} {gd : Option (Nat × Bool)} {gs : List Nat} {σ : Sg} {K : Ef → Prop} {KF : Option KT} {t e n c z : Nat} {x hi : Operand} {ad : Addr} {k : IntKind}
 {sz : Nat} {zr : List Value} {by_ : Nat} {ti : TI} (hx : gv σ x = some (.v (.slice (some ad) n c))) (hl : gv σ hi = some (.v (.int k z))) (ht : T.ty t = some ⟨sz, zr, by_, .slice e⟩) (he : T.ty e = some ti) (hc : z ≤ c)
 (hB : efB σ ⟨.v (.slice (some ad) z c), [], [], gs ++ (os x ++ os hi), []⟩ = true) (hK : K ⟨.v (.slice (some ad) z c), [], [], gs ++ (os x ++ os hi), []⟩) : OpEvS P ⟨dst, .slice t x none (some hi) none, ty, pos, after, gd⟩ gs σ K KF := by
 refine .mk _ hB (fun k hk => by simp [hk]) rfl (runOK_pure fun β a w hss => ?_) hK
 have e1 := gv_eval hss hx (fun k hk => by simp [hk])
 have e2 := gv_eval hss hl (fun k hk => by simp [hk])
 have hu := under_slice (T.tok t _ ht) rfl
 have hel : P.elem t = e := by simp [Program.elem, hu]
 have hu' : P.underlying t = some (.slice (P.elem t)) := by rw [hel]; exact hu
 have hsz := (T.tok e ti he).run_sizeOf w
 simp only [execOp, Option.map_some, Option.map_none, e1, e2, SV.c, Sem.run_bind, Sem.run_pure, Result.andThen_ok]
 rw [run_sliceAt_slice w t _ _ _ _ hu', run_slice_h w t _ _ _ hu' _ _ (by omega) (by omega), hel, hsz]
 simp only [Result.andThen_ok, sliced, Int.toNat_natCast, Option.map_some, Nat.zero_mul, Nat.sub_zero]
 have h0 : ad.add 0 = ad := by simp [Addr.add]
 rw [h0, ite_self]
end Go.Proofs.YtkbfcofifhngfaaGreat.Tx
namespace Go.Proofs.YtkbfcofifhngfaaGreat.Tx
open Go Go.RowKit
section
variable {X : Cx} {F : Fence} {n : Nat} {P : Program} {ops : Array Oper} {Q : Exit → Act → World → Prop}
def GG (X : Cx) (F : Fence) (n : Nat) (P : Program) (ops : Array Oper) (Q : Exit → Act → World → Prop) (L : List (Oper × Ef)) (σ : Sg) (done todo : List Nat) : Prop :=
 ∀ (fuel : Nat) (listed : Array Bool) (a : Act) (w : World), listed.size = L.length → listed.toList.countP (! ·) = fuel →
  (∀ j, listed.getD j false = true → ∀ o, (L.map (·.1))[j]? = some o → ∀ e ∈ o.after, Region.binds .any e = true → listed.getD e.on false = true) →
  (∀ c ∈ done, listed.getD c false = true) → (∀ c ∈ todo, listed.getD c false = false) → Sat X (foldS L listed.toList σ) a w → wpAnyIn F n P .any ops Q fuel listed a w
theorem GG_end {L : List (Oper × Ef)} {σ : Sg} {done : List Nat} (hL : ops.toList = L.map (·.1)) (hd : DrawOK L σ) (hlink : ∀ i p, i ∉ done → L[i]? = some p → Link F n P ops p.1 (fin (L.take i) σ) p.2)
 (hq : ∀ a w, Sat X (fin L σ) a w → Q .normal a w) : GG X F n P ops Q L σ done [] := by
 have hget : ∀ i : Nat, ops[i]? = (L[i]?).map (fun p : Oper × Ef => p.1) := fun i => by rw [← List.getElem?_map, ← hL, Array.getElem?_toList]
 intro fuel
 induction fuel with
 | zero =>
  intro listed a w hls hc hdown hdone _ hsat
  have hall : ∀ j, j < L.length → listed.getD j false = true := fun j hj => by
   rw [List.countP_eq_zero] at hc
   have hj' : j < listed.size := by omega
   have := hc listed[j] (by simp)
   simp only [Array.getD_eq_getD_getElem?, Array.getElem?_eq_getElem hj', Option.getD_some]
   simpa using this
  have hnone : Region.ready .any ops listed = [] := by
   rw [List.eq_nil_iff_forall_not_mem]
   intro i hi
   obtain ⟨h0, o, ho, _⟩ := mem_ready.1 hi
   have hsz : ops.size = L.length := by have := congrArg List.length hL; simpa using this
   have hi2 := (Array.getElem?_eq_some_iff.1 ho).1
   have := hall i (by rw [← hsz]; exact hi2)
   rw [getD_tf (by omega), this] at h0
   cases h0
  exact ⟨hnone, hq a w (by rw [← foldS_all' hls hall]; exact hsat)⟩
 | succ fuel ih =>
  intro listed a w hls hc hdown hdone htodo hsat
  refine ⟨fun hr => hq a w (by rw [← foldS_all' hls (all_listed hL hd hls hr)]; exact hsat), fun i hi => ?_⟩
  obtain ⟨h0, o, ho, hall⟩ := mem_ready.1 hi
  have hiL : i < L.length := by
   have hsz : ops.size = L.length := by have := congrArg List.length hL; simpa using this
   rw [← hsz]; exact (Array.getElem?_eq_some_iff.1 ho).1
  obtain ⟨E, hE⟩ : ∃ E, L[i]? = some (o, E) := by
   have := hget i
   rw [ho, List.getElem?_eq_getElem hiL] at this
   simp only [Option.map_some, Option.some.injEq] at this
   exact ⟨(L[i]).2, by rw [List.getElem?_eq_getElem hiL, this]⟩
  have h0' : listed.getD i false = false := by rw [← getD_tf (by omega)]; exact h0
  have hnd : i ∉ done := fun h => by have := hdone i h; rw [h0'] at this; cases this
  unfold wpOpIn
  rw [ho]
  refine (any_norm (Q := Q) hL hd hls hdown h0' hall hE (hlink i _ hnd hE) hsat).mono fun a' w' hs' => ?_
  exact ih (listed.setIfInBounds i true) a' w' (by simpa using hls) (countP_next (by omega) h0' hc) (down_next (by simp [hE]) hdown hall) (fun c hc => getD_set_true (hdone c hc)) (fun c hc => by cases hc) hs'
theorem foldS_congr : ∀ (L L' : List (Oper × Ef)) (S : List Bool) (σ : Sg), L.length = L'.length → (∀ i : Nat, S[i]? = some true → L[i]? = L'[i]?) → foldS L S σ = foldS L' S σ
 | [], [], _, _, _, _ => rfl
 | [], q :: L', _, _, hl, _ => by simp at hl
 | p :: L, [], _, _, hl, _ => by simp at hl
 | p :: L, q :: L', [], σ, _, _ => by simp [foldS]
 | p :: L, q :: L', b :: S, σ, hl, h => by
  simp only [foldS]
  have ht := fun (i : Nat) (hi : S[i]? = some true) => h (i + 1) (by simpa using hi)
  cases b with
  | false => simpa using foldS_congr L L' S σ (by simpa using hl) (fun i hi => by simpa using ht i hi)
  | true =>
   have h0 := h 0 rfl
   simp only [List.getElem?_cons_zero, Option.some.injEq] at h0
   subst h0
   simpa using foldS_congr L L' S _ (by simpa using hl) (fun i hi => by simpa using ht i hi)
theorem app_h (σ : Sg) (d : Option Tmp) (E : Ef) (h : World → Prop) : ({σ with h := h} : Sg).app d E = {σ.app d E with h := h} := rfl
theorem foldS_h : ∀ (L : List (Oper × Ef)) (S : List Bool) (σ : Sg) (h : World → Prop), foldS L S {σ with h := h} = {foldS L S σ with h := h}
 | p :: L, b :: S, σ, h => by
  simp only [foldS]
  cases b with
  | false => simpa using foldS_h L S σ h
  | true =>
   simp only [if_true]
   rw [app_h]
   exact foldS_h L S _ h
 | [], _, σ, h => by simp [foldS]
 | _ :: _, [], σ, h => by simp [foldS]
theorem fin_h : ∀ (L : List (Oper × Ef)) (σ : Sg) (h : World → Prop), fin L {σ with h := h} = {fin L σ with h := h}
 | [], _, _ => rfl
 | p :: L, σ, h => by
  simp only [fin]
  rw [app_h]
  exact fin_h L _ h
theorem fin_nt (L : List (Oper × Ef)) (σ : Sg) : (fin L σ).nt = σ.nt := by
 induction L generalizing σ with
 | nil => rfl
 | cons p L ih => simp only [fin]; rw [ih]; rfl
def FamC (F : Fence) (n : Nat) (P : Program) (ops : Array Oper) (o : Oper) (σ : Sg) (E0 : Ef) {α : Type} (V : α → Value) (hx : α → World → Prop) : Prop :=
 ∀ (Q : Exit → Act → World → Prop) (β : Nat → Nat) (a : Act) (w : World) (K : Act → World → Prop), Sees σ E0 β a w → (∀ y w', Below w.heap.size w w' → St w.heap.size (hx y) w' → K (a.put o.dst (V y)) w') → StepB F n P ops Q o K a w
theorem GG_fam {α : Type} (LF : α → List (Oper × Ef)) (V : α → Value) (hx : α → World → Prop) (y0 : α) {σ : Sg} {done : List Nat} (c : Nat) (rest : List Nat) (oc : Oper)
 (hL : ∀ y, ops.toList = (LF y).map (·.1)) (hd : ∀ y, DrawOK (LF y) σ) (hEc0 : ∀ y, ∃ rs rb, (LF y)[c]? = some (oc, ⟨.v (V y), [], [], rs, rb⟩))
 (hind : ∀ y y' i, i ≠ c → ((bef ops.toList []).getD i 0).testBit c = false → (LF y)[i]? = (LF y')[i]?)
 (hlink : ∀ i p, i ∉ done → i ≠ c → ((bef ops.toList []).getD i 0).testBit c = false → (LF y0)[i]? = some p → Link F n P ops p.1 (fin ((LF y0).take i) σ) p.2)
 (hdst : ∀ d, oc.dst = some d → d < σ.nt) (hfam0 : ∀ rs rb, (LF y0)[c]? = some (oc, ⟨.v (V y0), [], [], rs, rb⟩) → FamC F n P ops oc (fin ((LF y0).take c) σ) ⟨.v (V y0), [], [], rs, rb⟩ V hx) (hrest : ∀ d ∈ rest, d ≠ c ∧ ((bef ops.toList []).getD d 0).testBit c = true)
 (hnext : ∀ y, GG X F n P ops Q (LF y) {σ with h := fun w => σ.h w ∧ hx y w} (c :: done) rest) : GG X F n P ops Q (LF y0) σ done (c :: rest) := by
 obtain ⟨rs0, rb0, hEc⟩ := hEc0 y0
 have hfam := hfam0 rs0 rb0 hEc
 have hlen : ∀ y, (LF y).length = (LF y0).length := fun y => by
  have h1 := congrArg List.length (hL y)
  have h2 := congrArg List.length (hL y0)
  simp only [List.length_map] at h1 h2
  omega
 have hget : ∀ i : Nat, ops[i]? = ((LF y0)[i]?).map (fun p : Oper × Ef => p.1) := fun i => by rw [← List.getElem?_map, ← hL y0, Array.getElem?_toList]
 have hcl : c < (LF y0).length := (List.getElem?_eq_some_iff.1 hEc).1
 intro fuel
 induction fuel with
 | zero =>
  intro listed a w hls hc hdown hdone htodo hsat
  exfalso
  rw [List.countP_eq_zero] at hc
  have hj' : c < listed.size := by omega
  have h1 := hc listed[c] (by simp)
  have h2 := htodo c List.mem_cons_self
  simp only [Array.getD_eq_getD_getElem?, Array.getElem?_eq_getElem hj', Option.getD_some] at h2
  rw [h2] at h1
  simp at h1
 | succ fuel ih =>
  intro listed a w hls hc hdown hdone htodo hsat
  have hc0 := htodo c List.mem_cons_self
  refine ⟨fun hr => ?_, fun i hi => ?_⟩
  · have := all_listed (hL y0) (hd y0) hls hr c hcl
    rw [hc0] at this; cases this
  obtain ⟨h0, o, ho, hall⟩ := mem_ready.1 hi
  have hiL : i < (LF y0).length := by
   have hsz : ops.size = (LF y0).length := by have := congrArg List.length (hL y0); simpa using this
   rw [← hsz]; exact (Array.getElem?_eq_some_iff.1 ho).1
  have h0' : listed.getD i false = false := by rw [← getD_tf (by omega)]; exact h0
  have hnodep : ∀ j, listed.getD j false = true → j < (LF y0).length → ((bef ops.toList []).getD j 0).testBit c = false := fun j hj hjl => by
   refine Classical.byContradiction fun hbit => ?_
   have hbit : ((bef ops.toList []).getD j 0).testBit c = true := by simpa using hbit
   rw [hL y0] at hbit
   have hjo : ((LF y0).map (·.1))[j]? = some ((LF y0)[j]).1 := by simp [List.getElem?_eq_getElem hjl]
   have := (bef_listed (hd y0).edges (fun j => listed.getD j false = true) hdown j j (Nat.le_refl _) _ hjo (hdown j hj _ hjo) c hbit).1
   rw [hc0] at this; cases this
  unfold wpOpIn
  rw [ho]
  by_cases hic : i = c
  · subst hic
    obtain ⟨β, Dm, hsat'⟩ := hsat
    have hoc : o = oc := by
     have := hget i
     rw [ho, hEc] at this
     simpa using this
    subst hoc
    have hwfE : ∀ (σ' : Sg) y rs rb, Ef.Wf ⟨.v (V y), [], [], rs, rb⟩ σ' := fun σ' y rs rb => ⟨fun i b h => (by cases h), fun i b b' h => (by cases h)⟩
    obtain ⟨hsees, _⟩ := any_core (hL y0) (hd y0) hls hdown h0' hall hEc (hwfE _ _ _ _) (fun i b h => by cases h) (fun d hd' => by rw [fin_nt]; exact hdst d hd') hsat'
    refine hfam Q β a w _ hsees fun y w' hb hst => ?_
    obtain ⟨rs, rb, hEy⟩ := hEc0 y
    have hmap : (LF y).map (·.1) = (LF y0).map (·.1) := by rw [← hL y, ← hL y0]
    have hfold : foldS (LF y) listed.toList σ = foldS (LF y0) listed.toList σ := foldS_congr _ _ _ _ (hlen y) fun j hj => by
     have hj' : j < listed.size := by have := (List.getElem?_eq_some_iff.1 hj).1; simpa using this
     have hjt : listed.getD j false = true := by
      simp only [Array.getD_eq_getD_getElem?, Array.getElem?_eq_getElem hj', Option.getD_some]
      rw [Array.getElem?_toList, Array.getElem?_eq_getElem hj', Option.some.injEq] at hj
      exact hj
     refine hind y y0 j (fun e => ?_) (hnodep j hjt (by omega))
     subst e
     rw [hc0] at hjt; cases hjt
    obtain ⟨_, hav, hwf, hnt, hD, _⟩ := any_core (hL y) (hd y) (by rw [hlen]; exact hls) (by rw [hmap]; exact hdown) h0' hall hEy (hwfE _ _ _ _) (fun i b h => by cases h) (fun d hd' => by rw [fin_nt]; exact hdst d hd') (by rw [hfold]; exact hsat')
    have hset : (listed.setIfInBounds i true).toList = listed.toList.set i true := by simp
    have hoL : ((LF y0).map (·.1))[i]? = some o := by simp [hEc]
    refine hnext y fuel (listed.setIfInBounds i true) _ w' (by rw [hlen]; simpa using hls) (countP_next (by omega) h0' hc) (by rw [hmap]; exact down_next hoL hdown hall) (fun d hd' => ?_) (fun d hd' => ?_) ?_
    · rcases List.mem_cons.1 hd' with rfl | hd'
      · have hj' : d < listed.size := by omega
        simp [Array.getD_eq_getD_getElem?, hj']
      · exact getD_set_true (hdone d hd')
    · have h1 := htodo d (List.mem_cons_of_mem _ hd')
      have hne := (hrest d hd').1
      refine getD_false fun h2 => ?_
      rw [getD_set_ne false (fun e => hne e.symm)] at h2
      rw [h1] at h2; cases h2
    · rw [foldS_h, hset]
      have hext := sat_ext (hx := hx y) (by rw [← hfold] at hsat'; exact hsat') hb hst
      obtain ⟨D2, hext⟩ : ∃ D2, Sat' X {foldS (LF y) listed.toList σ with h := fun w => (foldS (LF y) listed.toList σ).h w ∧ hx y w} β D2 a w' := ⟨_, hext⟩
      have happ := hext.app (E := ⟨.v (V y), [], [], rs, rb⟩) (dst := o.dst) ⟨hav.t, hav.g, hav.m⟩ (hwfE _ _ _ _) hnt (β' := β) (w' := w') ⟨fun _ _ => rfl, Chg.refl _ _, fun i b h => (by cases h), fun i h => (by cases h), fun i h => (by cases h)⟩
      refine ⟨β, D2, Sat'.congr (σ' := {foldS (LF y) (listed.toList.set i true) σ with h := fun w => σ.h w ∧ hx y w}) (σ := ({foldS (LF y) listed.toList σ with h := fun w => (foldS (LF y) listed.toList σ).h w ∧ hx y w} : Sg).app o.dst ⟨.v (V y), [], [], rs, rb⟩) (fun k => look_inl (hD (true, k))) (fun g => look_inr (hD (false, g))) ?_ ?_ ?_ happ⟩
      · show (foldS (LF y) (listed.toList.set i true) σ).nt = (foldS (LF y) listed.toList σ).nt
        rw [(foldS_meta _ _ σ).1]; exact ((foldS_meta (LF y) listed.toList σ).1).symm
      · show (fun w => σ.h w ∧ hx y w) = fun w => (foldS (LF y) listed.toList σ).h w ∧ hx y w
        rw [(foldS_meta (LF y) listed.toList σ).2]
      · show (foldS (LF y) (listed.toList.set i true) σ).z = (foldS (LF y) listed.toList σ).z
        rw [foldS_z]; exact (foldS_z (LF y) listed.toList σ).symm
  · have hnd : i ∉ done := fun h => by have := hdone i h; rw [h0'] at this; cases this
    obtain ⟨E, hE⟩ : ∃ E, (LF y0)[i]? = some (o, E) := by
     have := hget i
     rw [ho, List.getElem?_eq_getElem hiL] at this
     simp only [Option.map_some, Option.some.injEq] at this
     exact ⟨((LF y0)[i]).2, by rw [List.getElem?_eq_getElem hiL, this]⟩
    have hoL : ((LF y0).map (·.1))[i]? = some o := by simp [hE]
    have hdep : ((bef ops.toList []).getD i 0).testBit c = false := by
     refine Classical.byContradiction fun hbit => ?_
     have hbit : ((bef ops.toList []).getD i 0).testBit c = true := by simpa using hbit
     rw [hL y0] at hbit
     have := (bef_listed (hd y0).edges (fun j => listed.getD j false = true) hdown i i (Nat.le_refl _) _ hoL hall c hbit).1
     rw [hc0] at this; cases this
    refine (any_norm (Q := Q) (hL y0) (hd y0) hls hdown h0' hall hE (hlink i _ hnd hic hdep hE) hsat).mono fun a' w' hs' => ?_
    refine ih (listed.setIfInBounds i true) a' w' (by simpa using hls) (countP_next (by omega) h0' hc) (down_next hoL hdown hall) (fun d hd' => getD_set_true (hdone d hd')) (fun d hd' => ?_) hs'
    have h1 := htodo d hd'
    have hne : d ≠ i := fun e => by
     subst e
     rcases List.mem_cons.1 hd' with h | h
     · exact hic h
     · have := (hrest d h).2
       rw [hdep] at this; cases this
    refine getD_false fun h2 => ?_
    rw [getD_set_ne false (fun e => hne e.symm)] at h2
    rw [h1] at h2; cases h2
end
section
variable {P : Program} (T : Env P)
structure Fm where
 α : Type
 V : α → Value
 hx : α → World → Prop
 y : α
inductive FamEv (P : Program) (σ : Sg) (kn : World → Prop) (k : Nat) (l : List SV) (f : Fm) (K : List Nat → Prop) : Prop
 | mk (rb : List Nat) (h : ∀ β w, (∀ i ∈ rb, ∀ b, lk σ.m i = some b → b.ok β w (β i)) → kn w → Calls P k (SV.cs β l).toArray w fun e w' => ∃ x, e = .returned (f.V x) ∧ Below w.heap.size w w' ∧ St w.heap.size (f.hx x) w') (hK : K rb) : FamEv P σ kn k l f K
def gdS (L0 : List Oper) (o : Oper) (σ : Sg) : Option (List Nat) :=
 match o.guard with
 | none => some []
 | some (j, want) => match (L0[j]?).bind (·.dst) with
  | some k => (match lk σ.t k with
   | some (.v (.bool b)) => bif b == want then some [k] else none
   | _ => none)
  | none => none
theorem gdS_spec {ops : Array Oper} {L0 : List Oper} (hL : ops.toList = L0) {o : Oper} {σ : Sg} {gs : List Nat} (h : gdS L0 o σ = some gs) : Gd ops o gs σ := by
 unfold gdS at h
 split at h
 · exact .inl (by assumption)
 · rename_i j want hg
   split at h
   case h_2 => cases h
   rename_i k hk
   split at h
   case h_2 => cases h
   rename_i b hb
   cases hc : b == want with
   | false => rw [hc] at h; cases h
   | true =>
    rw [hc, cond_true, Option.some.injEq] at h
    subst h
    have hbw : b = want := by simpa using hc
    subst hbw
    refine .inr ⟨j, b, k, hg, ?_, by simp, hb⟩
    rw [← Array.getElem?_toList, hL]; exact hk
def famG (L0 : List Oper) (o : Oper) (σ : Sg) (kn : World → Prop) (f : Fm) (K : List Nat → List Nat → Prop) : Prop :=
 match o.op, gdS L0 o σ with
 | .call ⟨.value fo, args, _⟩, some gs => (match gv σ fo with
  | some (.v (.func (.func k) first cap)) => (T.fn k = true ∧ first.toList = [] ∧ cap.toList = []) ∧ gvs σ args.toList fun l => normK l fun l' => FamEv P σ kn k l' f fun rb => K (gs ++ (os fo ++ oss args.toList)) rb
  | _ => False)
 | _, _ => False
theorem fam_op {F : Fence} {n : Nat} {ops : Array Oper} {dst : Option Tmp} {fo : Operand} {args : Array Operand} {ts : Array TypeId} {ty : TypeId} {pos : String} {after : Array Edge} {σ : Sg} {kn : World → Prop} {k : Nat} {l : List SV} {f : Fm} {v0 : Value} {rb gs : List Nat} {gd : Option (Nat × Bool)} (hF : Wd F) (hlt : ∀ k s, lk σ.t k = some s → k < σ.nt) (hg : Gd ops ⟨dst, .call ⟨.value fo, args, ts⟩, ty, pos, after, gd⟩ gs σ)
 (hf : gv σ fo = some (.v (.func (.func k) #[] #[]))) (hk : T.fn k = true) (hl : args.toList.map (gv σ) = l.map some)
 (h : ∀ β w, (∀ i ∈ rb, ∀ b, lk σ.m i = some b → b.ok β w (β i)) → kn w → Calls P k (SV.cs β l).toArray w fun e w' => ∃ x, e = .returned (f.V x) ∧ Below w.heap.size w w' ∧ St w.heap.size (f.hx x) w') :
 FamC F n P ops ⟨dst, .call ⟨.value fo, args, ts⟩, ty, pos, after, gd⟩ {σ with h := kn} ⟨.v v0, [], [], gs ++ (os fo ++ oss args.toList), rb⟩ f.V f.hx := by
 intro Q β a w K hs hK
 have hgd : GuardOn ops ⟨dst, .call ⟨.value fo, args, ts⟩, ty, pos, after, gd⟩ {σ with h := kn} ⟨.v v0, [], [], gs ++ (os fo ++ oss args.toList), rb⟩ := ⟨by
  rcases hg with h | ⟨j, want, k, h1, h2, h3, h4⟩
  · exact .inl h
  · exact .inr ⟨j, want, k, h1, h2, List.mem_append_left _ h3, h4⟩⟩
 unfold StepB
 rw [hgd.wanted hs hlt, if_pos rfl]
 refine ⟨fun f _ => hF.fn f, ?_⟩
 have hsem : Oper.semAt F.round a.eval ⟨dst, .call ⟨.value fo, args, ts⟩, ty, pos, after, gd⟩ = execOp a.eval ⟨dst, .call ⟨.value fo, args, ts⟩, ty, pos, after, gd⟩ := Oper.semAt_eq _ _ _ (fun c hc => by cases hc)
 rw [hsem]
 have e1 := gv_eval hs (show gv {σ with h := kn} fo = _ by cases fo <;> exact hf) (fun k hk => List.mem_append_right _ (List.mem_append_left _ hk))
 have hl' : args.toList.map (gv {σ with h := kn}) = l.map some := by
  rw [← hl]
  exact List.map_congr_left fun x _ => by cases x <;> rfl
 have e2 := map_toArray (gvs_eval hs hl' (fun k hk => List.mem_append_right _ (List.mem_append_right _ hk)))
 have hrun : (execOp a.eval ⟨dst, .call ⟨.value fo, args, ts⟩, ty, pos, after, gd⟩).run P w = .ok (.enter k (SV.cs β l).toArray) w := by
  simp only [execOp, resolve, e1, SV.c, e2, Deferred.ofValue, invoke, Sem.run_bind, Sem.run_pure, Result.andThen_ok, T.fok k hk]
  simp
 rw [hrun, Oper.uponIn_enter]
 refine ⟨fun hd => (by rw [hF.depth] at hd; cases hd), ?_⟩
 refine hF.calls ((h β w hs.m hs.h).mono fun e w' ⟨x, he, hb, hst⟩ => ?_)
 subst he
 exact hK x w' hb hst
def vX (fs : Nat → Option Fm) (L0 : List Oper) : List Oper → Nat → Sg → List (Oper × Ef) → (World → Prop) → (Sg → List (Oper × Ef) → Prop) → Prop
 | [], _, σ, acc, _, K => drawB acc = true ∧ K σ acc
 | o :: r, j, σ, acc, kn, K => match dstB o σ.nt with
  | true => (match fs j with
   | none => vO T L0 o σ (fun E => gSplit (isG L0 j) E fun E => appK σ o.dst E fun σ' => vX fs L0 r (j + 1) σ' (acc ++ [(o, E)]) kn K) none
   | some f => famG T L0 o σ kn f fun rs rb => appK σ o.dst ⟨.v (f.V f.y), [], [], rs, rb⟩ fun σ' => vX fs L0 r (j + 1) σ' (acc ++ [(o, ⟨.v (f.V f.y), [], [], rs, rb⟩)]) (fun w => kn w ∧ f.hx f.y w) K)
  | false => False
def knF (fs : Nat → Option Fm) : Nat → Nat → (World → Prop) → (World → Prop)
 | _, 0, kn => kn
 | j, i + 1, kn => knF fs (j + 1) i (match fs j with | none => kn | some f => fun w => kn w ∧ f.hx f.y w)
theorem vX_spec {F : Fence} {n : Nat} {ops : Array Oper} {L0 : List Oper} {fs : Nat → Option Fm} (hF : Wd F) (hL : ops.toList = L0) : ∀ (l : List Oper) (j : Nat) (σ : Sg) (acc : List (Oper × Ef)) (kn : World → Prop) (K : Sg → List (Oper × Ef) → Prop), σ.Ok → vX T fs L0 l j σ acc kn K →
 ∃ L : List (Oper × Ef), l = L.map (·.1) ∧ (∀ i p, fs (j + i) = none → L[i]? = some p → Link F n P ops p.1 (fin (L.take i) σ) p.2) ∧
  (∀ i f, fs (j + i) = some f → i < L.length → ∃ oc rs rb, L[i]? = some (oc, ⟨.v (f.V f.y), [], [], rs, rb⟩) ∧ (∀ d, oc.dst = some d → d < σ.nt) ∧ FamC F n P ops oc {fin (L.take i) σ with h := knF fs j i kn} ⟨.v (f.V f.y), [], [], rs, rb⟩ f.V f.hx) ∧
  K (fin L σ) (acc ++ L) ∧ (fin L σ).Ok ∧ drawB (acc ++ L) = true ∧ (∀ p ∈ L, ∃ m, σ.nb ≤ m ∧ p.2.fr = List.range' m p.2.fr.length)
 | [], _, σ, acc, kn, K, hσ, h => ⟨[], rfl, fun i p _ h => by simp at h, fun i f _ hi => by simp at hi, by simpa [fin] using h.2, hσ, by simpa using h.1, fun p hp => (by cases hp)⟩
 | o :: r, j, σ, acc, kn, K, hσ, h => by
  simp only [vX] at h
  split at h
  case h_2 => exact h.elim
  rename_i hd0
  have hd := dstB_spec hd0
  split at h
  · rename_i hfs
    rcases vO_spec T (n := n) hF hL hσ h with ⟨E, h1, h2, h3⟩ | ⟨kf, hkf, _⟩
    case inr => cases hkf
    obtain ⟨E', h4, h5, h6⟩ := gSplit_spec h1 h2 h3
    obtain ⟨L, g1, g2, g3, g4, g5, g6, g7⟩ := vX_spec hF hL r (j + 1) _ _ kn K (hσ.app (o := o) h5 hd) (appK_spec h4)
    refine ⟨(o, E') :: L, by simp [g1], fun i p hfi hp => ?_, fun i f hfi hi => ?_, by simpa [fin] using g4, g5, by simpa using g6, fun p hp => ?_⟩
    · cases i with
      | zero =>
       simp only [List.getElem?_cons_zero, Option.some.injEq] at hp
       subst hp
       exact h5.link hσ.wf hd h6
      | succ i => exact g2 i p (by rw [← hfi]; congr 1; omega) (by simpa using hp)
    · cases i with
      | zero => rw [Nat.add_zero, hfs] at hfi; cases hfi
      | succ i =>
       obtain ⟨oc, rs, rb, q1, q2, q3⟩ := g3 i f (by rw [← hfi]; congr 1; omega) (by simpa using hi)
       refine ⟨oc, rs, rb, by simpa using q1, q2, ?_⟩
       have : knF fs j (i + 1) kn = knF fs (j + 1) i kn := by simp only [knF, hfs]
       rw [this]
       exact q3
    · rcases List.mem_cons.1 hp with rfl | hp
      · exact ⟨σ.nb, Nat.le_refl _, h5.fr⟩
      · obtain ⟨m, q1, q2⟩ := g7 p hp
        exact ⟨m, Nat.le_trans (Nat.le_add_right _ _) q1, q2⟩
  · rename_i f hfs
    obtain ⟨dst, op, ty, pos, after, gd⟩ := o
    unfold famG at h
    split at h
    case h_2 => exact h.elim
    rename_i fo args ts gs h1 h2
    dsimp only at h1
    subst h1
    have hd := dstB_spec hd0
    split at h
    case h_2 => exact h.elim
    rename_i k first cap hf
    obtain ⟨⟨hk, hfi, hca⟩, h⟩ := h
    obtain rfl : first = #[] := Array.toList_eq_nil_iff.1 hfi
    obtain rfl : cap = #[] := Array.toList_eq_nil_iff.1 hca
    obtain ⟨l, h3, h4⟩ := gvs_spec h
    obtain ⟨rb, hc, h5⟩ := normK_spec h3
    have hE : EfOK σ ⟨.v (f.V f.y), [], [], gs ++ (os fo ++ oss args.toList), rb⟩ := ⟨rfl, rfl, fun i b h => (by cases h), fun i b h => (by cases h), fun i b b' h => (by cases h)⟩
    obtain ⟨L, g1, g2, g3, g4, g5, g6, g7⟩ := vX_spec hF hL r (j + 1) _ _ _ K (hσ.app (o := ⟨dst, .call ⟨.value fo, args, ts⟩, ty, pos, after, gd⟩) hE hd) (appK_spec h5)
    refine ⟨(⟨dst, .call ⟨.value fo, args, ts⟩, ty, pos, after, gd⟩, ⟨.v (f.V f.y), [], [], gs ++ (os fo ++ oss args.toList), rb⟩) :: L, by simp [g1], fun i p hfi hp => ?_, fun i f' hfi hi => ?_, by simpa [fin] using g4, g5, by simpa using g6, fun p hp => ?_⟩
    · cases i with
      | zero => rw [Nat.add_zero, hfs] at hfi; cases hfi
      | succ i => exact g2 i p (by rw [← hfi]; congr 1; omega) (by simpa using hp)
    · cases i with
      | zero =>
       rw [Nat.add_zero, hfs, Option.some.injEq] at hfi
       subst hfi
       exact ⟨_, _, _, rfl, hd, fam_op T hF hσ.lt (gdS_spec hL h2) hf hk h4 hc⟩
      | succ i =>
       obtain ⟨oc, rs, rb', q1, q2, q3⟩ := g3 i f' (by rw [← hfi]; congr 1; omega) (by simpa using hi)
       refine ⟨oc, rs, rb', by simpa using q1, q2, ?_⟩
       have : knF fs j (i + 1) kn = knF fs (j + 1) i (fun w => kn w ∧ f.hx f.y w) := by simp only [knF, hfs]
       rw [this]
       exact q3
    · rcases List.mem_cons.1 hp with rfl | hp
      · exact ⟨σ.nb, Nat.le_refl _, rfl⟩
      · obtain ⟨m, q1, q2⟩ := g7 p hp
        exact ⟨m, Nat.le_trans (Nat.le_add_right _ _) q1, q2⟩
end
def indR (bs : List Nat) (c : Nat) : Nat → List (Oper × Ef) → List (Oper × Ef) → Prop
 | _, [], [] => True
 | i, p :: l, q :: r => ((Nat.beq i c || (bs.getD i 0).testBit c) = true ∨ p = q) ∧ indR bs c (i + 1) l r
 | _, _, _ => False
theorem indR_spec {bs : List Nat} {c : Nat} : ∀ {l r : List (Oper × Ef)} {j : Nat}, indR bs c j l r → ∀ i, j + i ≠ c → (bs.getD (j + i) 0).testBit c = false → l[i]? = r[i]?
 | [], [], _, _, i, _, _ => rfl
 | p :: l, q :: r, j, h, i, hne, hd => by
  cases i with
  | zero =>
   rcases h.1 with h1 | h1
   · rw [Nat.add_zero] at hne hd
     have : Nat.beq j c = false := by
      cases hb : Nat.beq j c with
      | false => rfl
      | true => exact absurd (Nat.eq_of_beq_eq_true hb) hne
     rw [this, hd] at h1
     cases h1
   · simp [h1]
  | succ i =>
   simpa using indR_spec h.2 i (by omega) (by rw [show j + 1 + i = j + (i + 1) from by omega]; exact hd)
 | [], q :: r, _, h, _, _, _ => h.elim
 | p :: l, [], _, h, _, _, _ => h.elim
theorem Link.more {F : Fence} {n : Nat} {P : Program} {ops : Array Oper} {o : Oper} {σ : Sg} {E : Ef} (h : Link F n P ops o σ E) {h' : World → Prop} (hh : ∀ w, h' w → σ.h w) : Link F n P ops o {σ with h := h'} E :=
 ⟨fun Q β a w K hs hK => h.ok Q β a w K ⟨hs.t, hs.m, hs.inj, hh _ hs.h, hs.size, fun w' hc => hh _ (hs.st w' hc)⟩ hK, ⟨h.wf.old, h.wf.once⟩, ⟨h.av.t, h.av.g, h.av.m⟩, h.rb, h.dst⟩
def hdO : Code → Array Oper | .seq (.region _ o _) _ => o | _ => #[]
theorem beq_ne {a b : Nat} (h : a ≠ b) : Nat.beq a b = false := by
 cases hb : Nat.beq a b with
 | false => rfl
 | true => exact absurd (Nat.eq_of_beq_eq_true hb) h
def fs2 {α1 α2 : Type} (c1 c2 : Nat) (V1 : α1 → Value) (x1 : α1 → World → Prop) (V2 : α2 → Value) (x2 : α2 → World → Prop) (y1 : α1) (y2 : α2) (j : Nat) : Option Fm :=
 bif Nat.beq j c1 then some ⟨α1, V1, x1, y1⟩ else bif Nat.beq j c2 then some ⟨α2, V2, x2, y2⟩ else none
theorem VC_reg2 {P : Program} (T : Env P) (hm : P.follows .mixedOrders = true) {id : Nat} {ops : Array Oper} {σ : Sg} {Φ : Exit → Sg → Prop} {α1 α2 : Type} (c1 c2 : Nat) (V1 : α1 → Value) (x1 : α1 → World → Prop) (V2 : α2 → Value) (x2 : α2 → World → Prop) (d1 : α1) (d2 : α2)
 (LF : α1 → α2 → List (Oper × Ef)) (h12 : c1 < c2) (h3 : c2 < ops.size)
 (hv : ∀ y1 y2, vX T (fs2 c1 c2 V1 x1 V2 x2 y1 y2) ops.toList ops.toList 0 σ [] σ.h (fun σ' acc => acc = LF y1 y2 ∧ Φ .normal {σ' with h := fun w => (σ.h w ∧ x1 y1 w) ∧ x2 y2 w}))
 (hk1 : ∀ y1 y2, knF (fs2 c1 c2 V1 x1 V2 x2 y1 y2) 0 c1 σ.h = σ.h) (hk2 : ∀ y1 y2, knF (fs2 c1 c2 V1 x1 V2 x2 y1 y2) 0 c2 σ.h = fun w => σ.h w ∧ x1 y1 w)
 (hi1 : ∀ y y' y2, indR (bef ops.toList []) c1 0 (LF y y2) (LF y' y2)) (hi2 : ∀ y1 y y', indR (bef ops.toList []) c2 0 (LF y1 y) (LF y1 y'))
 (hd12 : ((bef ops.toList []).getD c2 0).testBit c1 = true) : VC P (.region id ops true) σ Φ := by
 intro F n X a w hF hlp hok hsat
 have hS := fun y1 y2 => vX_spec T (F := F) (n := n) (ops := ops) hF rfl _ 0 σ [] _ _ hok (hv y1 y2)
 have f1 : ∀ y1 y2, fs2 c1 c2 V1 x1 V2 x2 y1 y2 c1 = some ⟨α1, V1, x1, y1⟩ := fun _ _ => by unfold fs2; rw [Nat.beq_refl]; rfl
 have f2 : ∀ y1 y2, fs2 c1 c2 V1 x1 V2 x2 y1 y2 c2 = some ⟨α2, V2, x2, y2⟩ := fun _ _ => by unfold fs2; rw [beq_ne (by omega), Nat.beq_refl]; rfl
 have f0 : ∀ y1 y2 i, i ≠ c1 → i ≠ c2 → fs2 c1 c2 V1 x1 V2 x2 y1 y2 i = none := fun _ _ i e1 e2 => by unfold fs2; rw [beq_ne e1, beq_ne e2]; rfl
 have hA : ∀ y1 y2, ops.toList = (LF y1 y2).map (·.1) ∧ (∀ i p, i ≠ c1 → i ≠ c2 → (LF y1 y2)[i]? = some p → Link F n P ops p.1 (fin ((LF y1 y2).take i) σ) p.2) ∧
  (∀ i f, fs2 c1 c2 V1 x1 V2 x2 y1 y2 i = some f → i < (LF y1 y2).length → ∃ oc rs rb, (LF y1 y2)[i]? = some (oc, ⟨.v (f.V f.y), [], [], rs, rb⟩) ∧ (∀ d, oc.dst = some d → d < σ.nt) ∧ FamC F n P ops oc {fin ((LF y1 y2).take i) σ with h := knF (fs2 c1 c2 V1 x1 V2 x2 y1 y2) 0 i σ.h} ⟨.v (f.V f.y), [], [], rs, rb⟩ f.V f.hx) ∧
  Φ .normal {fin (LF y1 y2) σ with h := fun w => (σ.h w ∧ x1 y1 w) ∧ x2 y2 w} ∧ (fin (LF y1 y2) σ).Ok ∧ DrawOK (LF y1 y2) σ := fun y1 y2 => by
  obtain ⟨L, g1, g2, g3, ⟨g4, g4'⟩, g5, g6, g7⟩ := hS y1 y2
  rw [List.nil_append] at g4 g6
  subst g4
  simp only [drawB, Bool.and_eq_true] at g6
  refine ⟨g1, fun i p e1 e2 hp => g2 i p (by rw [Nat.zero_add]; exact f0 y1 y2 i e1 e2) hp, fun i f hfi hi => g3 i f (by rw [Nat.zero_add]; exact hfi) hi, g4', g5, g6.1, g6.2, fun p hp => ?_⟩
  obtain ⟨m, q1, q2⟩ := g7 p hp
  exact hok.wf.av q1 q2
 have hsz : ∀ y1 y2, (LF y1 y2).length = ops.size := fun y1 y2 => by
  have := congrArg List.length (hA y1 y2).1
  simpa using this.symm
 have hdr : ∀ y1 y2 h', DrawOK (LF y1 y2) {σ with h := h'} := fun y1 y2 h' => by
  obtain ⟨_, _, _, _, _, hd⟩ := hA y1 y2
  exact ⟨hd.edges, hd.pairs, fun p hp => ⟨(hd.av p hp).t, (hd.av p hp).g, (hd.av p hp).m⟩⟩
 have hlk : ∀ y1 y2 i p (h' : World → Prop), (∀ w, h' w → σ.h w) → i ≠ c1 → i ≠ c2 → (LF y1 y2)[i]? = some p → Link F n P ops p.1 (fin ((LF y1 y2).take i) {σ with h := h'}) p.2 := fun y1 y2 i p h' hh e1 e2 hp => by
  rw [fin_h]
  exact ((hA y1 y2).2.1 i p e1 e2 hp).more (fun w hw => by
   have : ∀ (L : List (Oper × Ef)) (τ : Sg), (fin L τ).h = τ.h := fun L => by
    induction L with
    | nil => intro τ; rfl
    | cons p L ih => intro τ; simp only [fin]; rw [ih]; rfl
   rw [this]; exact hh w hw)
 have hfm : ∀ y1 y2 i f, fs2 c1 c2 V1 x1 V2 x2 y1 y2 i = some f → i < ops.size → ∃ oc rs rb, (LF y1 y2)[i]? = some (oc, ⟨.v (f.V f.y), [], [], rs, rb⟩) ∧ (∀ d, oc.dst = some d → d < σ.nt) ∧ FamC F n P ops oc (fin ((LF y1 y2).take i) {σ with h := knF (fs2 c1 c2 V1 x1 V2 x2 y1 y2) 0 i σ.h}) ⟨.v (f.V f.y), [], [], rs, rb⟩ f.V f.hx := fun y1 y2 i f hf hi => by
  rw [fin_h]
  exact (hA y1 y2).2.2.1 i f hf (by rw [hsz]; exact hi)
 have hops : ∀ y1 y2 (i : Nat) (p : Oper × Ef), (LF y1 y2)[i]? = some p → ops[i]? = some p.1 := fun y1 y2 i p hp => by
  rw [← Array.getElem?_toList, (hA y1 y2).1, List.getElem?_map, hp]; rfl
 have G2 : ∀ y1 y2, GG X F n P ops (QΦ X Φ) (LF y1 y2) {σ with h := fun w => (σ.h w ∧ x1 y1 w) ∧ x2 y2 w} [c2, c1] [] := fun y1 y2 => by
  refine GG_end (hA y1 y2).1 (hdr _ _ _) (fun i p hi hp => ?_) fun a w hs => ?_
  · simp only [List.mem_cons, List.not_mem_nil, or_false, not_or] at hi
    exact hlk y1 y2 i p _ (fun w hw => hw.1.1) hi.2 hi.1 hp
  · rw [fin_h] at hs
    obtain ⟨_, _, _, q1, q2, _⟩ := hA y1 y2
    exact ⟨_, q1, ⟨⟨q2.wf.t, q2.wf.g, q2.wf.m⟩, q2.lt⟩, hs⟩
 have G1 : ∀ y1, GG X F n P ops (QΦ X Φ) (LF y1 d2) {σ with h := fun w => σ.h w ∧ x1 y1 w} [c1] [c2] := fun y1 => by
  obtain ⟨oc, rs, rb, q1, q2, q3⟩ := hfm y1 d2 c2 _ (f2 y1 d2) h3
  have hoc := hops _ _ _ _ q1
  refine GG_fam (fun y => LF y1 y) V2 x2 d2 c2 [] oc (fun y => (hA y1 y).1) (fun y => hdr _ _ _) (fun y => ?_) (fun y y' i hi hdp => ?_) (fun i p hi hic hdp hp => ?_) q2 (fun rs' rb' hE => ?_) (fun d hd => by cases hd) (fun y => G2 y1 y)
  · obtain ⟨oc', rs', rb', p1, _, _⟩ := hfm y1 y c2 _ (f2 y1 y) h3
    have := hops _ _ _ _ p1
    rw [hoc, Option.some.injEq] at this
    have he : oc = oc' := this
    subst he
    exact ⟨rs', rb', p1⟩
  · have := indR_spec (hi2 y1 y y') i (by rw [Nat.zero_add]; exact hi) (by rw [Nat.zero_add]; exact hdp)
    exact this
  · simp only [List.mem_cons, List.not_mem_nil, or_false] at hi
    exact hlk y1 d2 i p _ (fun w hw => hw.1) hi hic hp
  · rw [q1] at hE
    simp only [Option.some.injEq, Prod.mk.injEq, Ef.mk.injEq, true_and] at hE
    obtain ⟨rfl, rfl⟩ := hE
    rw [hk2] at q3
    exact q3
 have G0 : GG X F n P ops (QΦ X Φ) (LF d1 d2) σ [] [c1, c2] := by
  obtain ⟨oc, rs, rb, q1, q2, q3⟩ := hfm d1 d2 c1 _ (f1 d1 d2) (by omega)
  have hoc := hops _ _ _ _ q1
  refine GG_fam (fun y => LF y d2) V1 x1 d1 c1 [c2] oc (fun y => (hA y d2).1) (fun y => hdr _ _ σ.h) (fun y => ?_) (fun y y' i hi hdp => ?_) (fun i p hi hic hdp hp => ?_) q2 (fun rs' rb' hE => ?_) (fun d hd => ?_) (fun y => G1 y)
  · obtain ⟨oc', rs', rb', p1, _, _⟩ := hfm y d2 c1 _ (f1 y d2) (by omega)
    have := hops _ _ _ _ p1
    rw [hoc, Option.some.injEq] at this
    have he : oc = oc' := this
    subst he
    exact ⟨rs', rb', p1⟩
  · have := indR_spec (hi1 y y' d2) i (by rw [Nat.zero_add]; exact hi) (by rw [Nat.zero_add]; exact hdp)
    exact this
  · refine hlk d1 d2 i p σ.h (fun w hw => hw) hic (fun e => ?_) hp
    subst e; rw [hd12] at hdp; cases hdp
  · rw [q1] at hE
    simp only [Option.some.injEq, Prod.mk.injEq, Ef.mk.injEq, true_and] at hE
    obtain ⟨rfl, rfl⟩ := hE
    rw [hk1] at q3
    exact q3
  · simp only [List.mem_cons, List.not_mem_nil, or_false] at hd
    subst hd
    exact ⟨by omega, hd12⟩
 refine wpIn_region_any hm ?_
 have hrep : ∀ j, (Array.replicate ops.size false).getD j false = false := fun j => by
  simp only [Array.getD_eq_getD_getElem?, Array.getElem?_replicate]
  split <;> rfl
 refine G0 ops.size (Array.replicate ops.size false) a _ (by simp [hsz]) (by simp [List.countP_replicate]) (fun j hj => by rw [hrep] at hj; cases hj) (fun c hc => by cases hc) (fun c _ => hrep c) ?_
 obtain ⟨β, Dm, hs⟩ := hsat
 refine ⟨β, Dm, ?_⟩
 rw [foldS_none]
 · exact hs.drawn _
 · intro b hb
   simp only [Array.toList_replicate, List.mem_replicate] at hb
   exact hb.2
def fs1 {α1 : Type} (c1 : Nat) (V1 : α1 → Value) (x1 : α1 → World → Prop) (y1 : α1) (j : Nat) : Option Fm := bif Nat.beq j c1 then some ⟨α1, V1, x1, y1⟩ else none
theorem VC_reg1 {P : Program} (T : Env P) (hm : P.follows .mixedOrders = true) {id : Nat} {ops : Array Oper} {σ : Sg} {Φ : Exit → Sg → Prop} {α1 : Type} (c1 : Nat) (V1 : α1 → Value) (x1 : α1 → World → Prop) (d1 : α1)
 (LF : α1 → List (Oper × Ef)) (h3 : c1 < ops.size)
 (hv : ∀ y1, vX T (fs1 c1 V1 x1 y1) ops.toList ops.toList 0 σ [] σ.h (fun σ' acc => acc = LF y1 ∧ Φ .normal {σ' with h := fun w => σ.h w ∧ x1 y1 w}))
 (hk1 : ∀ y1, knF (fs1 c1 V1 x1 y1) 0 c1 σ.h = σ.h)
 (hi1 : ∀ y y', indR (bef ops.toList []) c1 0 (LF y) (LF y')) : VC P (.region id ops true) σ Φ := by
 intro F n X a w hF hlp hok hsat
 have hS := fun y1 => vX_spec T (F := F) (n := n) (ops := ops) hF rfl _ 0 σ [] _ _ hok (hv y1)
 have f1 : ∀ y1, fs1 c1 V1 x1 y1 c1 = some ⟨α1, V1, x1, y1⟩ := fun _ => by unfold fs1; rw [Nat.beq_refl]; rfl
 have f0 : ∀ y1 i, i ≠ c1 → fs1 c1 V1 x1 y1 i = none := fun _ i e1 => by unfold fs1; rw [beq_ne e1]; rfl
 have hA : ∀ y1, ops.toList = (LF y1).map (·.1) ∧ (∀ i p, i ≠ c1 → (LF y1)[i]? = some p → Link F n P ops p.1 (fin ((LF y1).take i) σ) p.2) ∧
  (∀ i f, fs1 c1 V1 x1 y1 i = some f → i < (LF y1).length → ∃ oc rs rb, (LF y1)[i]? = some (oc, ⟨.v (f.V f.y), [], [], rs, rb⟩) ∧ (∀ d, oc.dst = some d → d < σ.nt) ∧ FamC F n P ops oc {fin ((LF y1).take i) σ with h := knF (fs1 c1 V1 x1 y1) 0 i σ.h} ⟨.v (f.V f.y), [], [], rs, rb⟩ f.V f.hx) ∧
  Φ .normal {fin (LF y1) σ with h := fun w => σ.h w ∧ x1 y1 w} ∧ (fin (LF y1) σ).Ok ∧ DrawOK (LF y1) σ := fun y1 => by
  obtain ⟨L, g1, g2, g3, ⟨g4, g4'⟩, g5, g6, g7⟩ := hS y1
  rw [List.nil_append] at g4 g6
  subst g4
  simp only [drawB, Bool.and_eq_true] at g6
  refine ⟨g1, fun i p e1 hp => g2 i p (by rw [Nat.zero_add]; exact f0 y1 i e1) hp, fun i f hfi hi => g3 i f (by rw [Nat.zero_add]; exact hfi) hi, g4', g5, g6.1, g6.2, fun p hp => ?_⟩
  obtain ⟨m, q1, q2⟩ := g7 p hp
  exact hok.wf.av q1 q2
 have hsz : ∀ y1, (LF y1).length = ops.size := fun y1 => by
  have := congrArg List.length (hA y1).1
  simpa using this.symm
 have hdr : ∀ y1 h', DrawOK (LF y1) {σ with h := h'} := fun y1 h' => by
  obtain ⟨_, _, _, _, _, hd⟩ := hA y1
  exact ⟨hd.edges, hd.pairs, fun p hp => ⟨(hd.av p hp).t, (hd.av p hp).g, (hd.av p hp).m⟩⟩
 have hlk : ∀ y1 i p (h' : World → Prop), (∀ w, h' w → σ.h w) → i ≠ c1 → (LF y1)[i]? = some p → Link F n P ops p.1 (fin ((LF y1).take i) {σ with h := h'}) p.2 := fun y1 i p h' hh e1 hp => by
  rw [fin_h]
  exact ((hA y1).2.1 i p e1 hp).more (fun w hw => by
   have : ∀ (L : List (Oper × Ef)) (τ : Sg), (fin L τ).h = τ.h := fun L => by
    induction L with
    | nil => intro τ; rfl
    | cons p L ih => intro τ; simp only [fin]; rw [ih]; rfl
   rw [this]; exact hh w hw)
 have hfm : ∀ y1 i f, fs1 c1 V1 x1 y1 i = some f → i < ops.size → ∃ oc rs rb, (LF y1)[i]? = some (oc, ⟨.v (f.V f.y), [], [], rs, rb⟩) ∧ (∀ d, oc.dst = some d → d < σ.nt) ∧ FamC F n P ops oc (fin ((LF y1).take i) {σ with h := knF (fs1 c1 V1 x1 y1) 0 i σ.h}) ⟨.v (f.V f.y), [], [], rs, rb⟩ f.V f.hx := fun y1 i f hf hi => by
  rw [fin_h]
  exact (hA y1).2.2.1 i f hf (by rw [hsz]; exact hi)
 have hops : ∀ y1 (i : Nat) (p : Oper × Ef), (LF y1)[i]? = some p → ops[i]? = some p.1 := fun y1 i p hp => by
  rw [← Array.getElem?_toList, (hA y1).1, List.getElem?_map, hp]; rfl
 have G1 : ∀ y1, GG X F n P ops (QΦ X Φ) (LF y1) {σ with h := fun w => σ.h w ∧ x1 y1 w} [c1] [] := fun y1 => by
  refine GG_end (hA y1).1 (hdr _ _) (fun i p hi hp => ?_) fun a w hs => ?_
  · simp only [List.mem_cons, List.not_mem_nil, or_false] at hi
    exact hlk y1 i p _ (fun w hw => hw.1) hi hp
  · rw [fin_h] at hs
    obtain ⟨_, _, _, q1, q2, _⟩ := hA y1
    exact ⟨_, q1, ⟨⟨q2.wf.t, q2.wf.g, q2.wf.m⟩, q2.lt⟩, hs⟩
 have G0 : GG X F n P ops (QΦ X Φ) (LF d1) σ [] [c1] := by
  obtain ⟨oc, rs, rb, q1, q2, q3⟩ := hfm d1 c1 _ (f1 d1) h3
  have hoc := hops _ _ _ q1
  refine GG_fam (fun y => LF y) V1 x1 d1 c1 [] oc (fun y => (hA y).1) (fun y => hdr _ σ.h) (fun y => ?_) (fun y y' i hi hdp => ?_) (fun i p hi hic hdp hp => ?_) q2 (fun rs' rb' hE => ?_) (fun d hd => by cases hd) (fun y => G1 y)
  · obtain ⟨oc', rs', rb', p1, _, _⟩ := hfm y c1 _ (f1 y) h3
    have := hops _ _ _ p1
    rw [hoc, Option.some.injEq] at this
    have he : oc = oc' := this
    subst he
    exact ⟨rs', rb', p1⟩
  · have := indR_spec (hi1 y y') i (by rw [Nat.zero_add]; exact hi) (by rw [Nat.zero_add]; exact hdp)
    exact this
  · exact hlk d1 i p σ.h (fun w hw => hw) hic hp
  · rw [q1] at hE
    simp only [Option.some.injEq, Prod.mk.injEq, Ef.mk.injEq, true_and] at hE
    obtain ⟨rfl, rfl⟩ := hE
    rw [hk1] at q3
    exact q3
 refine wpIn_region_any hm ?_
 have hrep : ∀ j, (Array.replicate ops.size false).getD j false = false := fun j => by
  simp only [Array.getD_eq_getD_getElem?, Array.getElem?_replicate]
  split <;> rfl
 refine G0 ops.size (Array.replicate ops.size false) a _ (by simp [hsz]) (by simp [List.countP_replicate]) (fun j hj => by rw [hrep] at hj; cases hj) (fun c hc => by cases hc) (fun c _ => hrep c) ?_
 obtain ⟨β, Dm, hs⟩ := hsat
 refine ⟨β, Dm, ?_⟩
 rw [foldS_none]
 · exact hs.drawn _
 · intro b hb
   simp only [Array.toList_replicate, List.mem_replicate] at hb
   exact hb.2
end Go.Proofs.YtkbfcofifhngfaaGreat.Tx
namespace Go.Proofs.YtkbfcofifhngfaaGreat
open Go Tx Go.RowKit
structure Tc where
 o : Option Addr
 c : Nat
 T : List Int
 h : Int
abbrev Tc.cs (t : Tc) : List Value := [.slice t.o t.T.length t.c, iv t.h]
def Tc.d (t : Tc) : List Int × Int := (t.T, t.h)
structure Sc where
 sl : Int
 ro : Int
 su : Int
 go : Option Addr
 gc : Nat
 G : List Rw
 to : Option Addr
 tc : Nat
 T : List Tc
abbrev Sc.v (s : Sc) : Value := .agg #[iv s.sl, iv s.ro, iv s.su, .slice s.go s.G.length s.gc, .slice s.to s.T.length s.tc]
structure SD where
 sl : Int
 ro : Int
 su : Int
 G : List (List Int)
 T : List (List Int × Int)
def Sc.d (s : Sc) : SD := ⟨s.sl, s.ro, s.su, s.G.map Rw.xs, s.T.map Tc.d⟩
structure ScIn (s : Sc) (w : World) : Prop where
 g : Rd 1 Rw.cs (.slice s.go s.G.length s.gc) s.G w
 r : RR s.G w
 t : Rd 2 Tc.cs (.slice s.to s.T.length s.tc) s.T w
 h : ∀ t ∈ s.T, Rd 1 iF (.slice t.o t.T.length t.c) t.T w
structure ScB (s : Sc) : Prop where
 g : s.G.length ≤ 1000000
 r : ∀ r ∈ s.G, r.xs.length ≤ 1000000
 t : s.T.length ≤ 1000000
 h : ∀ t ∈ s.T, t.T.length ≤ 1000000
theorem ScIn.below {s : Sc} {w w' : World} (h : ScIn s w) (hb : Below w.heap.size w w') : ScIn s w' := ⟨h.g.below hb, h.r.below hb, h.t.below hb, fun t ht => (h.h t ht).below hb⟩
theorem ScB.d {s s' : Sc} (h : ScB s) (hd : s'.d = s.d) : ScB s' := by
 obtain ⟨h1, h2, h3, h4⟩ := h
 simp only [Sc.d, SD.mk.injEq] at hd
 obtain ⟨_, _, _, e1, e2⟩ := hd
 have l1 := congrArg List.length e1
 have l2 := congrArg List.length e2
 simp only [List.length_map] at l1 l2
 refine ⟨by omega, fun r hr => ?_, by omega, fun t ht => ?_⟩
 · obtain ⟨q, hq, hqe⟩ := List.mem_map.1 (e1 ▸ List.mem_map_of_mem hr : r.xs ∈ s.G.map Rw.xs)
   rw [← hqe]; exact h2 q hq
 · obtain ⟨q, hq, hqe⟩ := List.mem_map.1 (e2 ▸ List.mem_map_of_mem ht : t.d ∈ s.T.map Tc.d)
   have : q.T = t.T := congrArg Prod.fst hqe
   rw [← this]; exact h4 q hq
def tlD : Code → Code | .seq _ b => b | c => c
theorem c14_1 : rest 1 body14 = .seq (.region 1 (hdO (rest 1 body14)) true) (tlD (rest 1 body14)) := by kernel_rfl
theorem School_rest (sl ro su : Int) (go to : Option Addr) (gc tc : Nat) (G : List Rw) (T : List Tc) (y : Rws (G.map Rw.xs)) (w : World) (hrd : Rd 2 Tc.cs (.slice to T.length tc) T w) (hR : ∀ t ∈ T, Rd 1 iF (.slice t.o t.T.length t.c) t.T w) (hl : T.length ≤ 1000000) (hrl : ∀ t ∈ T, t.T.length ≤ 1000000) :
 VC Tryz.prog (tlD (rest 1 body14)) ⟨42, [(1, .ptr 0 0), (2, .ptr 1 0), (3, .ptr 2 0)], [(0, .cells [.v (iv sl), .v (iv ro), .v (iv su), .v (.slice go G.length gc), .v (.slice to T.length tc)] 25), (1, .cells [.v (iv 0), .v (iv 0), .v (iv 0), .v (.slice none 0 0), .v (.slice none 0 0)] 34), (2, .cells [.v (iv sl), .v (iv ro), .v (iv su), .v (.slice y.o y.C.length y.c), .v (.slice none 0 0)] 34)], 3, fun w2 => Below w.heap.size w w2 ∧ St w.heap.size y.In w2, z0⟩
  (endΦ env Tryz.f14 fun s σ => (∀ w', σ.h w' → Below w.heap.size w w') ∧ ∀ β w', σ.h w' → (∀ i b, lk σ.m i = some b → b.live = true → St w.heap.size (fun w2 => b.ok β w2 (β i)) w') → ∃ x : { y' : Sc // y'.d = ⟨sl, ro, su, G.map Rw.xs, T.map Tc.d⟩ }, s.c β = x.1.v ∧ St w.heap.size (ScIn x.1) w') := by
 refine VC.of env mixed ?_
 skip
 conv => whnf
 refine loopD 5 (fun D : List Tc => [(1, .ptr 0 0), (2, .ptr 1 0), (3, .ptr 2 0), (4, .v (iv D.length))]) (fun D => (0, .cells [.v (iv sl), .v (iv ro), .v (iv su), .v (.slice go G.length gc), .v (.slice to T.length tc)] 25) :: (1, .cells [.v (iv 0), .v (iv 0), .v (iv 0), .v (.slice none 0 0), .v (.slice none 0 0)] 34) :: (2, .cells [.v (iv sl), .v (iv ro), .v (iv su), .v (.slice y.o y.C.length y.c), oSV 3 4 D] 34) :: oM 3 4 2 Tc.cs 52 D)
  (fun D w' => (Below w.heap.size w w' ∧ St w.heap.size y.In w') ∧ ∀ s ∈ D, St w.heap.size (Rd 1 iF (.slice s.o s.T.length s.c) s.T) w') (fun D => D.length ≤ T.length ∧ D.map Tc.d = (T.map Tc.d).take D.length) (fun D => T.length - D.length) (Dis.ent (x := []) ⟨Nat.zero_le _, rfl⟩ (Ent.weak rfl ⟨rfl, rfl, rfl, rfl, trivial⟩ ⟨rfl, rfl, rfl, trivial⟩ (fun w' h => ⟨h, fun r hr => by cases hr⟩))) (fun D _ => by cases D <;> exact ⟨rfl, rfl⟩) ?_
 intro D ⟨hk, hmap⟩
 rcases Nat.lt_or_ge D.length T.length with hkl | hkl
 · obtain ⟨⟨so, sc, xs, sp⟩, hx⟩ : ∃ b, T[D.length]? = some b := ⟨_, List.getElem?_eq_getElem hkl⟩
   obtain ⟨_, ad, rfl, _⟩ := hrd.ptr (by omega)
   have e1 := fun (w' : World) hw' => rd_fld (hrd.below (w' := w') hw') hx
   have hr := hR _ (List.mem_of_getElem? hx)
   have hrb := hrl _ (List.mem_of_getElem? hx)
   dsimp only at hr hrb
   have hm : (T.map Tc.d)[D.length]? = some (xs, sp) := by rw [List.getElem?_map, hx]; rfl
   have hnew : ∀ y : Option Addr × Nat, (D ++ [(⟨y.1, y.2, xs, sp⟩ : Tc)]).map Tc.d = (T.map Tc.d).take (D ++ [(⟨y.1, y.2, xs, sp⟩ : Tc)]).length := fun y => by
    rw [List.map_append, hmap, List.length_append, List.length_singleton, List.take_add_one, hm]; rfl
   have hl2 : ∀ y : Option Addr × Nat, (D ++ [(⟨y.1, y.2, xs, sp⟩ : Tc)]).length = D.length + 1 := fun y => by simp
   have hh0 : ∀ (o : Option Addr) (c : Nat), xs = [] → ∀ w', (fun D w' => (Below w.heap.size w w' ∧ St w.heap.size y.In w') ∧ ∀ s ∈ D, St w.heap.size (Rd 1 iF (.slice s.o s.T.length s.c) s.T) w') D w' → (o = none ∧ c = 0 → (fun D w' => (Below w.heap.size w w' ∧ St w.heap.size y.In w') ∧ ∀ s ∈ D, St w.heap.size (Rd 1 iF (.slice s.o s.T.length s.c) s.T) w') (D ++ [(⟨o, c, xs, sp⟩ : Tc)]) w') := fun o c hxs w' h hoc => ⟨h.1, fun r hr => by
    rcases List.mem_append.1 hr with hr | hr
    · exact h.2 r hr
    · rw [List.mem_singleton] at hr; subst hr; subst hxs; obtain ⟨rfl, rfl⟩ := hoc; exact fun _ _ => .inl ⟨rfl, rfl⟩⟩
   have hh1 : ∀ (b d : Nat) (w' : World), w.heap.size ≤ b → (fun D w' => (Below w.heap.size w w' ∧ St w.heap.size y.In w') ∧ ∀ s ∈ D, St w.heap.size (Rd 1 iF (.slice s.o s.T.length s.c) s.T) w') D w' → w'.ownsRow 0 3 1 (.slice (some ⟨b, 0, none⟩) xs.length d) xs.length (xs.flatMap iF) →
    (fun D w' => (Below w.heap.size w w' ∧ St w.heap.size y.In w') ∧ ∀ s ∈ D, St w.heap.size (Rd 1 iF (.slice s.o s.T.length s.c) s.T) w') (D ++ [(⟨some ⟨b, 0, none⟩, d, xs, sp⟩ : Tc)]) w' := fun b d w' hb h ho => ⟨h.1, fun r hr => by
    rcases List.mem_append.1 hr with hr | hr
    · exact h.2 r hr
    · rw [List.mem_singleton] at hr; subst hr; exact own_st (f := iF) (fun _ => rfl) hb rfl ho⟩
   generalize hn : D.length = n at *
   cases xs with
   | nil =>
    have hlo := fun (w' : World) (hb : Below w.heap.size w w') => list_none so sc w' (hr.below hb)
    cases D with
    | nil =>
     repeat'
      conv => whnf
      first
       |refine zA ?_|refine zB ?_|refine zC ?_|refine zD ?_|refine zF ?_|refine zG ?_|refine zI ?_
       |(refine splD ?_ ?_ <;> intro hc <;> first|(exfalso; omega)|skip)
       |refine eL [.slice so ([] : List Int).length sc] ⟨⟨rfl, fun w' hw' => e1 w' hw'.1.1 0 _ rfl⟩, ?_⟩
       |refine eL [iv sp] ⟨⟨rfl, fun w' hw' => e1 w' hw'.1.1 1 _ rfl⟩, ?_⟩
       |((with_reducible show CallEv _ _ 49 ..); refine callE (fun β w' hbw => hlo _ hbw.1.1) ?_)
     exact Dis.ent (x := [(⟨none, 0, [], sp⟩ : Tc)]) ⟨⟨by have := hl2 (none, 0); simp only [List.nil_append] at this; omega, hnew (none, 0)⟩, by have := hl2 (none, 0); simp only [List.nil_append] at this; omega⟩ (Ent.ren (rho [(3, 6), (4, 7)]) rfl rfl ⟨rfl, rfl, rfl, by rw [← hn]; rfl, trivial⟩ ⟨rfl, rfl, rfl, rfl, trivial⟩ (fun w' h => hh0 none 0 rfl w' h ⟨rfl, rfl⟩))
    | cons a D =>
     simp only [List.length_cons] at hn
     repeat'
      conv => whnf
      first
       |refine zA ?_|refine zB ?_|refine zC ?_|refine zD ?_|refine zF ?_|refine zG ?_|refine zH ?_|refine zI ?_
       |(refine splD ?_ ?_ <;> intro hc <;> first|(exfalso; omega)|skip)
       |refine eL [.slice so ([] : List Int).length sc] ⟨⟨rfl, fun w' hw' => e1 w' hw'.1.1 0 _ rfl⟩, ?_⟩
       |refine eL [iv sp] ⟨⟨rfl, fun w' hw' => e1 w' hw'.1.1 1 _ rfl⟩, ?_⟩
       |((with_reducible show CallEv _ _ 49 ..); refine callE (fun β w' hbw => hlo _ hbw.1.1) ?_)
     have hl3 : (a :: D ++ [(⟨none, 0, [], sp⟩ : Tc)]).length = n + 1 := hl2 (none, 0)
     exact Dis.ent (x := a :: D ++ [(⟨none, 0, [], sp⟩ : Tc)]) ⟨⟨by omega, hnew (none, 0)⟩, by omega⟩ (Ent.ren (rho [(3, 6), (4, 7)]) rfl rfl ⟨rfl, rfl, rfl, by rw [← hn]; simp; rfl, trivial⟩ ⟨rfl, rfl, by simp [oSV]; rfl, by simp [oM]; rfl, trivial⟩ (fun w' h => hh0 none 0 rfl w' h ⟨rfl, rfl⟩))
   | cons x xs =>
    have hlo := fun (w' : World) (hb : Below w.heap.size w w') => list_own (x :: xs) so sc w' (hr.below hb) (by simp) hrb
    cases D with
    | nil =>
     repeat'
      conv => whnf
      first
       |refine zA ?_|refine zB ?_|refine zC ?_|refine zD ?_|refine zF ?_|refine zG ?_
       |(refine splD ?_ ?_ <;> intro hc <;> first|(exfalso; omega)|skip)
       |refine eL [.slice so (x :: xs).length sc] ⟨⟨rfl, fun w' hw' => e1 w' hw'.1.1 0 _ rfl⟩, ?_⟩
       |refine eL [iv sp] ⟨⟨rfl, fun w' hw' => e1 w' hw'.1.1 1 _ rfl⟩, ?_⟩
       |((with_reducible show CallEv _ _ 49 ..); refine callO 5 [] (.os 5 6 (xs.length + 1)) (xs.length + 1) 1 ((x :: xs).flatMap iF) 3 rfl (fun β w' _ hbw => (hlo w' hbw.1.1).mono fun _ _ ⟨b, c, h1, h2, h3, h4⟩ => ⟨b, c, h1, h2, h3, h4⟩) ?_)
       |refine appG env 7 1 1 [.os 5 6 (xs.length + 1), .v (iv sp)] 52 0 [] [] rfl rfl rfl rfl rfl (by decide) rfl rfl rfl (fun _ => Nat.le_refl _) (by omega) (by decide) rfl (.inl ⟨rfl, rfl, rfl, rfl⟩) rfl ?_
     refine Dis.mk3 (w0 := w) (rho [(3, 8), (4, 9)]) [5] rfl (fun i hi => by rw [List.mem_singleton] at hi; subst hi; exact ⟨_, rfl, rfl⟩) (fun w' h => h.1.1) (fun β w1 hok hw1 hge => ⟨[(⟨some ⟨β 5, 0, none⟩, β 6, x :: xs, sp⟩ : Tc)], ⟨⟨by have := hl2 (none, 0); simp only [List.nil_append, List.length_singleton] at this ⊢; omega, hnew (some ⟨β 5, 0, none⟩, β 6)⟩, by have := hl2 (none, 0); simp only [List.nil_append, List.length_singleton] at this ⊢; omega⟩, ⟨⟨_, rfl, rfl⟩, ⟨_, rfl, rfl⟩, ⟨_, rfl, rfl⟩, ⟨_, rfl, by rw [← hn]; rfl⟩, trivial⟩, ⟨⟨rfl, _, rfl, fun _ => rfl, fun w2 y hy => hy⟩, ⟨rfl, _, rfl, fun _ => rfl, fun w2 y hy => hy⟩, ⟨rfl, _, rfl, fun _ => rfl, fun w2 y hy => hy⟩, ⟨rfl, _, rfl, fun _ => rfl, fun w2 y hy => hy⟩, trivial⟩, rfl, fun w2 hw2 hLo => hh1 (β 5) (β 6) w2 (hge 5 _ rfl rfl) hw2 (hLo 5 (by simp) _ rfl)⟩)
    | cons a D =>
     simp only [List.length_cons] at hn
     repeat'
      conv => whnf
      first
       |refine zA ?_|refine zB ?_|refine zC ?_|refine zD ?_|refine zF ?_|refine zG ?_
       |(refine splD ?_ ?_ <;> intro hc <;> first|(exfalso; omega)|skip)
       |refine eL [.slice so (x :: xs).length sc] ⟨⟨rfl, fun w' hw' => e1 w' hw'.1.1 0 _ rfl⟩, ?_⟩
       |refine eL [iv sp] ⟨⟨rfl, fun w' hw' => e1 w' hw'.1.1 1 _ rfl⟩, ?_⟩
       |((with_reducible show CallEv _ _ 49 ..); refine callO 5 [] (.os 5 6 (xs.length + 1)) (xs.length + 1) 1 ((x :: xs).flatMap iF) 3 rfl (fun β w' _ hbw => (hlo w' hbw.1.1).mono fun _ _ ⟨b, c, h1, h2, h3, h4⟩ => ⟨b, c, h1, h2, h3, h4⟩) ?_)
       |refine appG env 7 1 1 [.os 5 6 (xs.length + 1), .v (iv sp)] 52 (D.length + 1) ((a :: D).flatMap Tc.cs) [3] rfl rfl rfl rfl rfl (by decide) rfl rfl rfl (fun h => by cases h) (by omega) (by show (D.length + 1 + 1) * 32 ≤ 140737488355328; omega) rfl (.inr ⟨3, 4, rfl, rfl, rfl, (by show 3 < 8; decide)⟩) rfl ?_
     have hl3 : ∀ y : Option Addr × Nat, (a :: D ++ [(⟨y.1, y.2, x :: xs, sp⟩ : Tc)]).length = D.length + 1 + 1 := fun y => by rw [hl2]; omega
     refine Dis.mk3 (w0 := w) (rho [(3, 8), (4, 9)]) [5] rfl (fun i hi => by rw [List.mem_singleton] at hi; subst hi; exact ⟨_, rfl, rfl⟩) (fun w' h => h.1.1) (fun β w1 hok hw1 hge => ⟨a :: D ++ [(⟨some ⟨β 5, 0, none⟩, β 6, x :: xs, sp⟩ : Tc)], ⟨⟨by have := hl3 (some ⟨β 5, 0, none⟩, β 6); dsimp only at this; omega, hnew (some ⟨β 5, 0, none⟩, β 6)⟩, by have := hl3 (some ⟨β 5, 0, none⟩, β 6); dsimp only at this; omega⟩, ⟨⟨_, rfl, rfl⟩, ⟨_, rfl, rfl⟩, ⟨_, rfl, rfl⟩, ⟨_, rfl, by rw [hl3 (some ⟨β 5, 0, none⟩, β 6), ← hn]; rfl⟩, trivial⟩, ⟨⟨rfl, _, rfl, fun _ => rfl, fun w2 y hy => hy⟩, ⟨rfl, _, rfl, fun _ => rfl, fun w2 y hy => hy⟩, ⟨rfl, _, rfl, fun _ => by simp [oSV]; rfl, fun w2 y hy => by simp [oSV] at hy ⊢; exact hy⟩, by simp [oM]; exact ⟨⟨rfl, _, rfl, fun _ => rfl, fun w2 y hy => by simp [Blk.ok] at hy ⊢; exact hy⟩, trivial⟩⟩, rfl, fun w2 hw2 hLo => hh1 (β 5) (β 6) w2 (hge 5 _ rfl rfl) hw2 (hLo 5 (by simp) _ rfl)⟩)
 · have hk2 : D.length = T.length := by omega
   rw [hk2, List.take_of_length_le (Nat.le_of_eq (List.length_map ..))] at hmap
   have hsd : ∀ (o : Option Addr) (c : Nat), (⟨sl, ro, su, y.o, y.c, y.C, o, c, D⟩ : Sc).d = ⟨sl, ro, su, G.map Rw.xs, T.map Tc.d⟩ := fun o c => by
    show (⟨sl, ro, su, y.C.map Rw.xs, D.map Tc.d⟩ : SD) = _
    rw [y.h, hmap]
   cases D with
   | nil =>
    repeat'
     conv => whnf
     first
      |refine zB ?_|refine zC ?_
      |(refine splD ?_ ?_ <;> intro hc <;> first|(exfalso; omega)|skip)
    exact ⟨fun w' h => h.1.1, fun β w' hB hblk => ⟨⟨⟨sl, ro, su, y.o, y.c, y.C, none, 0, []⟩, hsd none 0⟩, rfl, fun w2 k2 => ⟨(hB.1.2 w2 k2).1, (hB.1.2 w2 k2).2, .inl ⟨rfl, rfl⟩, fun r hr => by cases hr⟩⟩⟩
   | cons a L =>
    repeat'
     conv => whnf
     first
      |refine zB ?_|refine zC ?_
      |(refine splD ?_ ?_ <;> intro hc <;> first|(exfalso; omega)|skip)
    refine ⟨fun w' h => h.1.1, fun β w' hB hblk => ?_⟩
    obtain ⟨z, h1, h2⟩ := oEnd (sz := 2) (f := Tc.cs) (fun _ => rfl) a L (hblk 3 _ rfl rfl)
    refine ⟨⟨⟨sl, ro, su, y.o, y.c, y.C, z.1, z.2, a :: L⟩, hsd z.1 z.2⟩, ?_, fun w2 k2 => ⟨(hB.1.2 w2 k2).1, (hB.1.2 w2 k2).2, h2 w2 k2, fun r hr => hB.2 r hr w2 k2⟩⟩
    exact congrArg (fun v => Value.agg #[iv sl, iv ro, iv su, Value.slice y.o y.C.length y.c, v]) h1
theorem School_ok (x : Sc) (w : World) (h : ScIn x w) (hB : ScB x) : Calls Tryz.prog 14 #[x.v] w fun e w' => ∃ y : { y : Sc // y.d = x.d }, e = .returned y.1.v ∧ Below w.heap.size w w' ∧ St w.heap.size (ScIn y.1) w' := by
 obtain ⟨sl, ro, su, go, gc, G, to, tc, T⟩ := x
 obtain ⟨hg, hr, ht, hh⟩ := h
 obtain ⟨b1, b2, b3, b4⟩ := hB
 dsimp only at hg hr ht hh b1 b2 b3 b4 ⊢
 have h48 := fun (w' : World) (hb : Below w.heap.size w w') => famS hb (rows_ok G go gc w' (hg.below hb) (hr.below hb) b1 b2)
 have hrest := fun y => School_rest sl ro su go to gc tc G T y w ht hh b3 b4
 refine calls_famV env mixed Tryz.func14 has14 Tryz.ntmps14 [.agg #[iv sl, iv ro, iv su, .slice go G.length gc, .slice to T.length tc]] (by simp) ?_
 refine VC.cutE env mixed 1 2 (fun _ : Unit => [(1, .ptr 0 0), (2, .ptr 1 0)]) (fun _ => [(0, .cells [.v (iv sl), .v (iv ro), .v (iv su), .v (.slice go G.length gc), .v (.slice to T.length tc)] 25), (1, .cells [.v (iv 0), .v (iv 0), .v (iv 0), .v (.slice none 0 0), .v (.slice none 0 0)] 34)]) (fun _ => True) (fun _ _ => ⟨rfl, rfl⟩) ?_ (fun _ _ => ?_)
 · skip
   skip
   exact ⟨rfl, (), trivial, Ent.weak rfl ⟨rfl, rfl, trivial⟩ ⟨rfl, rfl, trivial⟩ fun _ h => h⟩
 · rw [c14_1]
   refine VC.seq (f := fun σ' => ∃ y : Rws (G.map Rw.xs), Ent σ' ⟨42, [(1, .ptr 0 0), (2, .ptr 1 0), (3, .ptr 2 0)], [(0, .cells [.v (iv sl), .v (iv ro), .v (iv su), .v (.slice go G.length gc), .v (.slice to T.length tc)] 25), (1, .cells [.v (iv 0), .v (iv 0), .v (iv 0), .v (.slice none 0 0), .v (.slice none 0 0)] 34), (2, .cells [.v (iv sl), .v (iv ro), .v (iv su), .v (.slice y.o y.C.length y.c), .v (.slice none 0 0)] 34)], 3, fun w2 => Below w.heap.size w w2 ∧ St w.heap.size y.In w2, z0⟩) ?_ (fun σ' ⟨y, hy⟩ => VC.ent (hrest y) hy (okB rfl rfl rfl))
   clear hrest
   apply VC_reg1 env mixed 8 (fun y : Rws (G.map Rw.xs) => y.v) (fun y w2 => St w.heap.size y.In w2) ⟨none, 0, G, rfl⟩
   case h3 => exact Nat.le_of_ble_eq_true (by kernel_rfl)
   case hv =>
    intro y
    repeat'
     conv => whnf
     first
      |refine zA ?_|refine zB ?_|refine zC ?_
      |refine And.intro (a := (_ : Bool) = true ∧ (_ : List _) = [] ∧ (_ : List _) = []) ⟨rfl, rfl, rfl⟩ ?_
      |(with_reducible show FamEv _ _ _ 48 _ _ _); refine FamEv.mk [] (fun β w' _ hbw => h48 w' hbw) ?_
    refine ⟨?_, y, Ent.weak rfl ⟨rfl, rfl, rfl, trivial⟩ ⟨rfl, rfl, rfl, trivial⟩ fun w2 h => h⟩
    simp only [List.nil_append, List.cons_append, List.append_assoc]
    exact rfl
   case hk1 => intros; rfl
   case hi1 => exact fun _ _ => ⟨Or.inr rfl, Or.inr rfl, Or.inr rfl, Or.inr rfl, Or.inr rfl, Or.inr rfl, Or.inr rfl, Or.inr rfl, Or.inl (by kernel_rfl), Or.inl (by kernel_rfl), Or.inr rfl, Or.inl (by kernel_rfl), trivial⟩
def alN (f : Nat → Bool) : Nat → Bool
 | 0 => true
 | k + 1 => alN f k && f k
theorem alN_iff {f : Nat → Bool} : ∀ {n}, alN f n = true ↔ ∀ i, i < n → f i = true
 | 0 => by simp [alN]
 | n + 1 => by
  rw [alN, Bool.and_eq_true, alN_iff]
  constructor
  · intro h i hi
    by_cases e : i = n
    · subst e; exact h.2
    · exact h.1 i (by omega)
  · exact fun h => ⟨fun i hi => h i (by omega), h n (by omega)⟩
theorem alN_no {f : Nat → Bool} {n i : Nat} (hi : i < n) (h : f i = false) : alN f n = false := by
 rw [Bool.eq_false_iff]
 intro hc
 have := alN_iff.1 hc i hi
 rw [h] at this; cases this
theorem alN_and (f g : Nat → Bool) : ∀ n, alN (fun i => f i && g i) n = (alN f n && alN g n)
 | 0 => rfl
 | n + 1 => by
  rw [alN, alN, alN, alN_and f g n]
  cases alN f n <;> cases alN g n <;> cases f n <;> cases g n <;> rfl
theorem alN_congr {f g : Nat → Bool} : ∀ n, (∀ i, i < n → f i = g i) → alN f n = alN g n
 | 0, _ => rfl
 | n + 1, h => by rw [alN, alN, alN_congr n fun i hi => h i (by omega), h n (by omega)]
theorem evB_alN (l : List Int) (lo hi : Int) : evB l lo hi = alN (fun i => inB (l.getD i 0) lo hi) l.length := by
 rw [Bool.eq_iff_iff, alN_iff]
 unfold evB
 rw [List.all_eq_true]
 constructor
 · intro h i hi
   rw [List.getD_eq_getElem?_getD, List.getElem?_eq_getElem hi]
   exact h _ (List.getElem_mem hi)
 · intro h x hx
   obtain ⟨i, hi, rfl⟩ := List.getElem_of_mem hx
   have := h i hi
   rwa [List.getD_eq_getElem?_getD, List.getElem?_eq_getElem hi] at this
theorem getD_at {l : List Int} {i : Nat} {x : Int} (h : l[i]? = some x) : l.getD i 0 = x := by rw [List.getD_eq_getElem?_getD, h]; rfl
def riA (l : List Int) (i : Nat) : Bool := decide (i = 0) || decide (l.getD (i - 1) 0 < l.getD i 0)
def subB (su : Int) (l : List Int) : Bool := decide (0 < l.length) && (evB l 0 (su - 1) && alN (riA l) l.length)
def grB (su : Int) (l : List Int) : Bool := decide ((l.length : Int) = su) && evB l 0 20
def teB (su : Int) (t : List Int × Int) : Bool := subB su t.1 && inB t.2 0 40
def scOk (s : SD) : Bool := inB s.sl 1 40 && (inB s.ro 1 6 && (inB s.su 1 6 && (decide (s.G.length ≤ 8) && (decide (s.T.length ≤ 8) && (s.G.all (grB s.su) && s.T.all (teB s.su))))))
theorem scOk_iff {s : SD} : scOk s = true ↔ (1 ≤ s.sl ∧ s.sl ≤ 40) ∧ (1 ≤ s.ro ∧ s.ro ≤ 6) ∧ (1 ≤ s.su ∧ s.su ≤ 6) ∧ s.G.length ≤ 8 ∧ s.T.length ≤ 8 ∧ s.G.all (grB s.su) = true ∧ s.T.all (teB s.su) = true := by
 unfold scOk
 simp only [Bool.and_eq_true, inB_iff, decide_eq_true_eq]
theorem subjects_ok (s : Sc) (l : List Int) (o : Option Addr) (c : Nat) (w : World) (hrd : Rd 1 iF (.slice o l.length c) l w) (hl : l.length ≤ 1000000) (hs : -1000000 ≤ s.su ∧ s.su ≤ 1000000) :
 Calls Tryz.prog 63 #[s.v, .slice o l.length c] w fun e w' => e = .returned (.bool (subB s.su l)) ∧ Below w.heap.size w w' := by
 obtain ⟨sl, ro, su, go, gc, G, to, tc, T⟩ := s
 dsimp only at hs ⊢
 have hsp : subB su l = (decide (0 < l.length) && alN (fun i => inB (l.getD i 0) 0 (su - 1) && riA l i) l.length) := by
  rw [subB, alN_and, evB_alN]
 rw [hsp]
 refine calls_val env mixed Tryz.func63 has63 Tryz.ntmps63 [.agg #[iv sl, iv ro, iv su, .slice go G.length gc, .slice to T.length tc], .slice o l.length c] (by simp) ?_
 skip
 refine loopE (fun k : Nat => [(1, .v (.slice o l.length c)), (2, .ptr 0 0), (7, .v (.slice o l.length c)), (8, .v (iv l.length)), (9, .v (iv k))]) (fun _ => [(0, .cells [.v (iv sl), .v (iv ro), .v (iv su), .v (.slice go G.length gc), .v (.slice to T.length tc)] 34)])
  (fun k => k ≤ l.length ∧ alN (fun i => inB (l.getD i 0) 0 (su - 1) && riA l i) k = true) (fun k => l.length - k) 0 ⟨Nat.zero_le _, rfl⟩ ⟨rfl, rfl, rfl, rfl, rfl, trivial⟩ ⟨rfl, trivial⟩ (fun _ => ⟨rfl, rfl⟩) ?_
 intro k ⟨hk, hall⟩
 rcases Nat.lt_or_ge k l.length with hkl | hkl
 · obtain ⟨x, hx⟩ : ∃ b, l[k]? = some b := ⟨_, List.getElem?_eq_getElem hkl⟩
   obtain ⟨_, ad, rfl, _⟩ := hrd.ptr (by omega)
   have e0 := fun (w' : World) hw' => rd_ati (hrd.below (w' := w') hw') hx
   have hno := fun (h : (inB (l.getD k 0) 0 (su - 1) && riA l k) = false) => alN_no (f := fun i => inB (l.getD i 0) 0 (su - 1) && riA l i) hkl h
   have hnx : alN (fun i => inB (l.getD i 0) 0 (su - 1) && riA l i) (k + 1) = (inB (l.getD k 0) 0 (su - 1) && riA l k) := by rw [alN, hall, Bool.true_and]
   rw [getD_at hx] at hno hnx
   have hri : riA l k = (decide (k = 0) || decide (l.getD (k - 1) 0 < x)) := by unfold riA; rw [getD_at hx]
   rw [hri] at hno hnx
   have c61 := fun w' => within_ok x 0 (su - 1) w'
   cases hw : inB x 0 (su - 1) with
   | false =>
    rw [hw] at c61 hno
    rw [hno rfl, Bool.and_false]
    repeat'
     conv => whnf
     first
      |refine zB ?_|refine zD ?_|refine zF ?_|refine zG ?_|refine splT ?_
      |(refine splD ?_ ?_ <;> intro hc <;> first|(exfalso; omega)|skip)
      |refine eL [iv x] ⟨⟨rfl, fun w' hw' => e0 w' hw'⟩, ?_⟩
      |((with_reducible show CallEv _ _ 61 ..); refine callE (fun β w' hbw => c61 _) ?_)
    all_goals exact ⟨fun β => rfl, fun w' h => h⟩
   | true =>
    rw [hw] at c61 hno hnx
    rw [Bool.true_and] at hno hnx
    by_cases hk0 : k = 0
    · subst hk0
      repeat'
       conv => whnf
       first
        |refine zB ?_|refine zD ?_|refine zF ?_|refine zG ?_|refine splF ?_
        |(refine splD ?_ ?_ <;> intro hc <;> first|(exfalso; omega)|skip)
        |refine eL [iv x] ⟨⟨rfl, fun w' hw' => e0 w' hw'⟩, ?_⟩
        |((with_reducible show CallEv _ _ 61 ..); refine callE (fun β w' hbw => c61 _) ?_)
      all_goals exact ⟨0 + 1, ⟨by omega, by rw [hnx]; rfl⟩, by omega, Ent.weak rfl ⟨rfl, rfl, rfl, rfl, rfl, trivial⟩ ⟨rfl, trivial⟩ fun _ h => h⟩
    · obtain ⟨y, hy⟩ : ∃ b, l[k - 1]? = some b := ⟨_, List.getElem?_eq_getElem (by omega)⟩
      rw [getD_at hy, decide_eq_false hk0, Bool.false_or] at hno hnx
      have e1 := fun (w' : World) hw' => rd_atz (hrd.below (w' := w') hw') hy ((k : Int) - 1) (by omega)
      by_cases hlt : y < x
      · rw [decide_eq_true hlt] at hnx
        repeat'
         conv => whnf
         first
          |refine zB ?_|refine zD ?_|refine zF ?_|refine zG ?_|refine splF ?_
          |(refine splD ?_ ?_ <;> intro hc <;> first|(exfalso; omega)|skip)
          |refine eL [iv x] ⟨⟨rfl, fun w' hw' => e0 w' hw'⟩, ?_⟩
          |((with_reducible show CallEv _ _ 61 ..); refine callE (fun β w' hbw => c61 _) ?_)
          |refine eL [iv y] ⟨⟨rfl, fun w' hw' => e1 w' hw'⟩, ?_⟩
        all_goals exact ⟨k + 1, ⟨by omega, hnx⟩, by omega, Ent.weak rfl ⟨rfl, rfl, rfl, rfl, rfl, trivial⟩ ⟨rfl, trivial⟩ fun _ h => h⟩
      · rw [hno (decide_eq_false hlt), Bool.and_false]
        repeat'
         conv => whnf
         first
          |refine zB ?_|refine zD ?_|refine zF ?_|refine zG ?_|refine splF ?_
          |(refine splD ?_ ?_ <;> intro hc <;> first|(exfalso; omega)|skip)
          |refine eL [iv x] ⟨⟨rfl, fun w' hw' => e0 w' hw'⟩, ?_⟩
          |((with_reducible show CallEv _ _ 61 ..); refine callE (fun β w' hbw => c61 _) ?_)
          |refine eL [iv y] ⟨⟨rfl, fun w' hw' => e1 w' hw'⟩, ?_⟩
        all_goals exact ⟨fun β => rfl, fun w' h => h⟩
 · obtain rfl : k = l.length := by omega
   rw [hall, Bool.and_true]
   repeat'
    conv => whnf
    first
     |(refine splD ?_ ?_ <;> intro hc <;> first|(exfalso; omega)|skip)
   all_goals exact ⟨fun β => congrArg Value.bool (by simp; try omega), fun w' h => h⟩
abbrev scC (s : Sc) : List Value := [iv s.sl, iv s.ro, iv s.su, .slice s.go s.G.length s.gc, .slice s.to s.T.length s.tc]
theorem cell_at {w : World} {b : Nat} {C : List Value} {ty : TypeId} (h : w.heap[b]? = some (.cells C.toArray ty (0, 0))) {o : Nat} {v : Value} (hv : C[o]? = some v) : ∀ j u, [v][j]? = some u → w.cell? (((⟨b, 0, none⟩ : Addr).add o).add j) = some u := fun j u hj => by
 match j, hj with
 | 0, hj =>
  rw [own_add, own_add, Nat.zero_add, Nat.add_zero, cell_of_row w b o _ ty (0, 0) h, List.getElem?_toArray, hv]
  simpa using hj
theorem heap_below {w w' : World} {b : Nat} {x : Obj} (h : w.heap[b]? = some x) (hb : Below w.heap.size w w') : w'.heap[b]? = some x := by
 rw [hb.block b (Array.getElem?_eq_some_iff.1 h).1]; exact h
theorem agg_at {w : World} {b : Nat} {C : List Value} {ty : TypeId} (h : w.heap[b]? = some (.cells C.toArray ty (0, 0))) : ∀ j u, C[j]? = some u → w.cell? ((⟨b, 0, none⟩ : Addr).add j) = some u := fun j u hj => by
 rw [own_add, Nat.zero_add, cell_of_row w b j _ ty (0, 0) h, List.getElem?_toArray]
 exact hj
theorem valid1_ok (s : Sc) (b : Nat) (l : List Int) (o : Option Addr) (c : Nat) (w : World) (hb : w.heap[b]? = some (.cells (scC s).toArray 34 (0, 0))) (hrd : Rd 1 iF (.slice o l.length c) l w) (hl : l.length ≤ 1000000) :
 Calls Tryz.prog 81 #[.slice o l.length c, .pointer (some ⟨b, 0, none⟩)] w fun e w' => e = .returned (.bool (grB s.su l)) ∧ Below w.heap.size w w' := by
 have c82 := fun (w' : World) (hb : Below w.heap.size w w') => every_ok l o c 0 20 w' (hrd.below hb) hl
 have e0 := fun (w' : World) (hw : Below w.heap.size w w') => cell_at (heap_below hb hw) (o := 2) (v := iv s.su) rfl
 refine calls_val env mixed Tryz.func81 has81 Tryz.ntmps81 [.slice o l.length c, .pointer (some ⟨b, 0, none⟩)] (by simp) ?_
 unfold grB
 cases hw : evB l 0 20
 all_goals rw [hw] at c82
 all_goals skip
 repeat'
  conv => whnf
  first
   |refine zB ?_|refine zD ?_
   |refine splD (fun hc => ?_) (fun hc => ?_)
   |refine eL [iv s.su] ⟨⟨rfl, fun w' hw' => e0 w' hw'⟩, ?_⟩
   |((with_reducible show CallEv _ _ 82 ..); refine callE (fun β w' hbw => c82 _ hbw) ?_)
 all_goals exact ⟨fun β => congrArg Value.bool (by simp [*]), fun w' h => h⟩
theorem valid2_ok (s : Sc) (b : Nat) (t : Tc) (w : World) (hb : w.heap[b]? = some (.cells (scC s).toArray 34 (0, 0))) (hrd : Rd 1 iF (.slice t.o t.T.length t.c) t.T w) (hl : t.T.length ≤ 1000000) (hs : -1000000 ≤ s.su ∧ s.su ≤ 1000000) :
 Calls Tryz.prog 84 #[.agg #[.slice t.o t.T.length t.c, iv t.h], .pointer (some ⟨b, 0, none⟩)] w fun e w' => e = .returned (.bool (teB s.su t.d)) ∧ Below w.heap.size w w' := by
 have c63 := fun (w' : World) (hb : Below w.heap.size w w') => subjects_ok s t.T t.o t.c w' (hrd.below hb) hl hs
 have c61 := fun (w' : World) => within_ok t.h 0 40 w'
 have e0 := fun (w' : World) (hw : Below w.heap.size w w') => agg_at (heap_below hb hw)
 obtain ⟨o, c, T, h⟩ := t
 dsimp only at c61 c63 ⊢
 refine calls_val env mixed Tryz.func84 has84 Tryz.ntmps84 [.agg #[.slice o T.length c, iv h], .pointer (some ⟨b, 0, none⟩)] (by simp) ?_
 unfold teB Tc.d
 dsimp only
 cases hw : subB s.su T <;> cases hw2 : inB h 0 40
 all_goals rw [hw] at c63
 all_goals rw [hw2] at c61
 all_goals skip
 repeat'
  conv => whnf
  first
   |refine zB ?_|refine zD ?_|refine splT ?_|refine splF ?_
   |refine eL (scC s) ⟨⟨rfl, fun w' hw' => e0 w' hw'⟩, ?_⟩
   |((with_reducible show CallEv _ _ 61 ..); refine callE (fun β w' hbw => c61 _) ?_)
   |((with_reducible show CallEv _ _ 63 ..); refine callE (fun β w' hbw => c63 _ hbw) ?_)
 all_goals exact ⟨fun β => rfl, fun w' h => h⟩
theorem all_mapT {α β : Type} {f : α → β} {p : β → Bool} {L : List α} {k : Nat} {x : α} (h : L[k]? = some x) : ((L.take (k + 1)).map f).all p = (((L.take k).map f).all p && p (f x)) := by
 rw [List.take_add_one, h]; simp
theorem all_mapN {α β : Type} {f : α → β} {p : β → Bool} {L : List α} {k : Nat} {x : α} (h : L[k]? = some x) (hx : p (f x) = false) : (L.map f).all p = false := by
 rw [List.all_eq_false]
 exact ⟨f x, List.mem_map_of_mem (List.mem_of_getElem? h), by simp [hx]⟩
theorem all80_ok (s : Sc) (b : Nat) (C : List Rw) (o : Option Addr) (c : Nat) (w : World) (hb : w.heap[b]? = some (.cells (scC s).toArray 34 (0, 0))) (hrd : Rd 1 Rw.cs (.slice o C.length c) C w) (hR : RR C w) (hl : C.length ≤ 1000000) (hrl : ∀ r ∈ C, r.xs.length ≤ 1000000) :
 Calls Tryz.prog 80 #[.slice o C.length c, .func (.func 81) #[] #[.pointer (some ⟨b, 0, none⟩)]] w fun e w' => e = .returned (.bool ((C.map Rw.xs).all (grB s.su))) ∧ Below w.heap.size w w' := by
 refine calls_val env mixed Tryz.func80 has80 Tryz.ntmps80 [.slice o C.length c, .func (.func 81) #[] #[.pointer (some ⟨b, 0, none⟩)]] (by simp) ?_
 repeat'
  conv => whnf
  first
   |refine zD ?_
   |((with_reducible show CallEv _ _ 113 ..); refine callI env mixed 1000 [] Tryz.func113 has113 Tryz.ntmps113 (Nat.le_of_ble_eq_true rfl) rfl rfl rfl ?_)
   |((with_reducible show CallEv _ _ 146 ..); refine callI env mixed 2000 [] Tryz.func146 has146 Tryz.ntmps146 (Nat.le_of_ble_eq_true rfl) rfl rfl rfl ?_)
 refine loopE (fun k : Nat => [(0, .v (.slice o C.length c)), (1, .fn (.func 114) [.ptr 0 0]), (7, .v (iv C.length)), (8, .v (iv k))]) (fun _ => [(0, .cells [.v (.func (.func 81) #[] #[.pointer (some ⟨b, 0, none⟩)])] 111)]) (fun k => k ≤ C.length ∧ ((C.take k).map Rw.xs).all (grB s.su) = true) (fun k => C.length - k) 0 ⟨Nat.zero_le _, rfl⟩ ⟨rfl, rfl, rfl, rfl, trivial⟩ ⟨rfl, trivial⟩ (fun _ => ⟨rfl, rfl⟩) ?_
 intro k ⟨hk, hall⟩
 rcases Nat.lt_or_ge k C.length with hkl | hkl
 · obtain ⟨⟨ro, rc, xs⟩, hx⟩ : ∃ b, C[k]? = some b := ⟨_, List.getElem?_eq_getElem hkl⟩
   obtain ⟨_, ad, rfl, _⟩ := hrd.ptr (by omega)
   have hr := hR _ (List.mem_of_getElem? hx)
   have hrb := hrl _ (List.mem_of_getElem? hx)
   change Rd 1 iF (.slice ro xs.length rc) xs w at hr
   dsimp only at hrb
   have ht := all_mapT (f := Rw.xs) (p := grB s.su) hx
   rw [hall, Bool.true_and] at ht
   have hno := all_mapN (f := Rw.xs) (p := grB s.su) hx
   have e0 := fun (w' : World) hw' => rd_ati (hrd.below (w' := w') hw') hx
   have hv := fun (w' : World) (hw : Below w.heap.size w w') => valid1_ok s b xs ro rc w' (heap_below hb hw) (hr.below hw) hrb
   dsimp only at ht hno
   cases hg : grB s.su xs with
   | true =>
    rw [hg] at hv ht
    repeat'
     conv => whnf
     first
      |refine zB ?_|refine zD ?_|refine zF ?_|refine zG ?_|refine splF ?_
      |(refine splD ?_ ?_ <;> intro hc <;> first|(exfalso; omega)|skip)
      |refine eL [.slice ro xs.length rc] ⟨⟨rfl, fun w' hw' => e0 w' hw'⟩, ?_⟩
      |((with_reducible show CallEv _ _ 114 ..); refine callI env mixed 3000 [0,1,5,7,8] Tryz.func114 has114 Tryz.ntmps114 (Nat.le_of_ble_eq_true rfl) rfl rfl rfl ?_)
      |((with_reducible show CallEv _ _ 81 ..); refine callE (fun β w' hbw => hv _ hbw) ?_)
    all_goals exact ⟨k + 1, ⟨by omega, ht⟩, by omega, Ent.weak rfl ⟨rfl, rfl, rfl, rfl, trivial⟩ ⟨rfl, trivial⟩ fun _ h => h⟩
   | false =>
    rw [hg] at hv ht
    rw [hno hg]
    repeat'
     conv => whnf
     first
      |refine zB ?_|refine zD ?_|refine zG ?_|refine splT ?_
      |(refine splD ?_ ?_ <;> intro hc <;> first|(exfalso; omega)|skip)
      |refine eL [.slice ro xs.length rc] ⟨⟨rfl, fun w' hw' => e0 w' hw'⟩, ?_⟩
      |((with_reducible show CallEv _ _ 114 ..); refine callI env mixed 3000 [0,1,5,7,8] Tryz.func114 has114 Tryz.ntmps114 (Nat.le_of_ble_eq_true rfl) rfl rfl rfl ?_)
      |((with_reducible show CallEv _ _ 81 ..); refine callE (fun β w' hbw => hv _ hbw) ?_)
    all_goals exact ⟨fun β => rfl, fun w' h => h⟩
 · rw [List.take_of_length_le hkl] at hall
   rw [hall]
   repeat'
    conv => whnf
    first
     |(refine splD ?_ ?_ <;> intro hc <;> first|(exfalso; omega)|skip)
   all_goals exact ⟨fun β => rfl, fun w' h => h⟩
theorem all83_ok (s : Sc) (b : Nat) (C : List Tc) (o : Option Addr) (c : Nat) (w : World) (hb : w.heap[b]? = some (.cells (scC s).toArray 34 (0, 0))) (hrd : Rd 2 Tc.cs (.slice o C.length c) C w) (hR : ∀ t ∈ C, Rd 1 iF (.slice t.o t.T.length t.c) t.T w) (hl : C.length ≤ 1000000) (hrl : ∀ t ∈ C, t.T.length ≤ 1000000) (hs : -1000000 ≤ s.su ∧ s.su ≤ 1000000) :
 Calls Tryz.prog 83 #[.slice o C.length c, .func (.func 84) #[] #[.pointer (some ⟨b, 0, none⟩)]] w fun e w' => e = .returned (.bool ((C.map Tc.d).all (teB s.su))) ∧ Below w.heap.size w w' := by
 refine calls_val env mixed Tryz.func83 has83 Tryz.ntmps83 [.slice o C.length c, .func (.func 84) #[] #[.pointer (some ⟨b, 0, none⟩)]] (by simp) ?_
 repeat'
  conv => whnf
  first
   |refine zD ?_
   |((with_reducible show CallEv _ _ 117 ..); refine callI env mixed 1000 [] Tryz.func117 has117 Tryz.ntmps117 (Nat.le_of_ble_eq_true rfl) rfl rfl rfl ?_)
   |((with_reducible show CallEv _ _ 148 ..); refine callI env mixed 2000 [] Tryz.func148 has148 Tryz.ntmps148 (Nat.le_of_ble_eq_true rfl) rfl rfl rfl ?_)
 refine loopE (fun k : Nat => [(0, .v (.slice o C.length c)), (1, .fn (.func 118) [.ptr 0 0]), (7, .v (iv C.length)), (8, .v (iv k))]) (fun _ => [(0, .cells [.v (.func (.func 84) #[] #[.pointer (some ⟨b, 0, none⟩)])] 140)]) (fun k => k ≤ C.length ∧ ((C.take k).map Tc.d).all (teB s.su) = true) (fun k => C.length - k) 0 ⟨Nat.zero_le _, rfl⟩ ⟨rfl, rfl, rfl, rfl, trivial⟩ ⟨rfl, trivial⟩ (fun _ => ⟨rfl, rfl⟩) ?_
 intro k ⟨hk, hall⟩
 rcases Nat.lt_or_ge k C.length with hkl | hkl
 · obtain ⟨⟨ro, rc, xs, hh⟩, hx⟩ : ∃ b, C[k]? = some b := ⟨_, List.getElem?_eq_getElem hkl⟩
   obtain ⟨_, ad, rfl, _⟩ := hrd.ptr (by omega)
   have hr := hR _ (List.mem_of_getElem? hx)
   have hrb := hrl _ (List.mem_of_getElem? hx)
   dsimp only at hr hrb
   have ht := all_mapT (f := Tc.d) (p := teB s.su) hx
   rw [hall, Bool.true_and] at ht
   have hno := all_mapN (f := Tc.d) (p := teB s.su) hx
   have e0 := fun (w' : World) hw' => rd_ati (hrd.below (w' := w') hw') hx
   have hv := fun (w' : World) (hw : Below w.heap.size w w') => valid2_ok s b ⟨ro, rc, xs, hh⟩ w' (heap_below hb hw) (hr.below hw) hrb hs
   generalize Tc.d ⟨ro, rc, xs, hh⟩ = D at *
   cases hg : teB s.su D with
   | true =>
    rw [hg] at hv ht
    repeat'
     conv => whnf
     first
      |refine zB ?_|refine zD ?_|refine zF ?_|refine zG ?_|refine splF ?_
      |(refine splD ?_ ?_ <;> intro hc <;> first|(exfalso; omega)|skip)
      |refine eL [.slice ro xs.length rc, iv hh] ⟨⟨rfl, fun w' hw' => e0 w' hw'⟩, ?_⟩
      |((with_reducible show CallEv _ _ 118 ..); refine callI env mixed 3000 [0,1,5,7,8] Tryz.func118 has118 Tryz.ntmps118 (Nat.le_of_ble_eq_true rfl) rfl rfl rfl ?_)
      |((with_reducible show CallEv _ _ 84 ..); refine callE (fun β w' hbw => hv _ hbw) ?_)
    all_goals exact ⟨k + 1, ⟨by omega, ht⟩, by omega, Ent.weak rfl ⟨rfl, rfl, rfl, rfl, trivial⟩ ⟨rfl, trivial⟩ fun _ h => h⟩
   | false =>
    rw [hg] at hv ht
    rw [hno hg]
    repeat'
     conv => whnf
     first
      |refine zB ?_|refine zD ?_|refine zG ?_|refine splT ?_
      |(refine splD ?_ ?_ <;> intro hc <;> first|(exfalso; omega)|skip)
      |refine eL [.slice ro xs.length rc, iv hh] ⟨⟨rfl, fun w' hw' => e0 w' hw'⟩, ?_⟩
      |((with_reducible show CallEv _ _ 118 ..); refine callI env mixed 3000 [0,1,5,7,8] Tryz.func118 has118 Tryz.ntmps118 (Nat.le_of_ble_eq_true rfl) rfl rfl rfl ?_)
      |((with_reducible show CallEv _ _ 84 ..); refine callE (fun β w' hbw => hv _ hbw) ?_)
    all_goals exact ⟨fun β => rfl, fun w' h => h⟩
 · rw [List.take_of_length_le hkl] at hall
   rw [hall]
   repeat'
    conv => whnf
    first
     |(refine splD ?_ ?_ <;> intro hc <;> first|(exfalso; omega)|skip)
   all_goals exact ⟨fun β => rfl, fun w' h => h⟩
theorem valid_ok (s : Sc) (w : World) (h : ScIn s w) (hB : ScB s) : Calls Tryz.prog 37 #[s.v] w fun e w' => e = .returned (.bool (scOk s.d)) ∧ Below w.heap.size w w' := by
 have c80 := fun (b : Nat) (w' : World) (hw : Below w.heap.size w w') (hb : w'.heap[b]? = some (.cells (scC s).toArray 34 (0, 0))) => all80_ok s b s.G s.go s.gc w' hb (h.g.below hw) (h.r.below hw) hB.g hB.r
 have c83 := fun (hs : -1000000 ≤ s.su ∧ s.su ≤ 1000000) (b : Nat) (w' : World) (hw : Below w.heap.size w w') (hb : w'.heap[b]? = some (.cells (scC s).toArray 34 (0, 0))) => all83_ok s b s.T s.to s.tc w' hb (h.t.below hw) (fun t ht => (h.h t ht).below hw) hB.t hB.h hs
 have l1 := hB.g
 have l2 := hB.t
 obtain ⟨sl, ro, su, go, gc, G, to, tc, T⟩ := s
 unfold scOk Sc.d
 dsimp only at c80 c83 l1 l2 ⊢
 rw [List.length_map, List.length_map]
 generalize (G.map Rw.xs).all (grB su) = q6 at *
 generalize (T.map Tc.d).all (teB su) = q7 at *
 refine calls_val env mixed Tryz.func37 has37 Tryz.ntmps37 [.agg #[iv sl, iv ro, iv su, .slice go G.length gc, .slice to T.length tc]] (by simp) ?_
 cases q6 <;> cases q7
 all_goals skip
 repeat'
  conv => whnf
  first
   |refine zB ?_|refine zD ?_|refine splT ?_|refine splF ?_
   |refine splIn (fun hc => ?_) (fun hc => ?_)
   |refine splD (fun hc => ?_) (fun hc => ?_)
   |((with_reducible show CallEv _ _ 61 ..); refine callE (fun β w' hbw => within_ok _ _ _ _) ?_)
   |((with_reducible show CallEv _ _ 80 ..); refine callM [0] (fun β w' hbk hbw => c80 _ w' hbw (hbk 0 (by simp) _ rfl)) ?_)
   |((with_reducible show CallEv _ _ 83 ..); refine callM [0] (fun β w' hbk hbw => c83 (by omega) _ w' hbw (hbk 0 (by simp) _ rfl)) ?_)
 all_goals exact ⟨fun β => congrArg Value.bool (by simp [inB, *] <;> omega), fun w' h => h⟩
structure ScX (s : Sc) : Prop where
 g : s.G.length ≤ 9223372036854775807
 r : ∀ r ∈ s.G, r.xs.length ≤ 9223372036854775807
 t : s.T.length ≤ 9223372036854775807
 h : ∀ t ∈ s.T, t.T.length ≤ 9223372036854775807
end Go.Proofs.YtkbfcofifhngfaaGreat
namespace Go.Proofs.YtkbfcofifhngfaaGreat.Tx
open Go Go.RowKit
theorem lts_set {n : Nat} {s : SV} (hs : s.lt n = true) : ∀ {l : List SV} {i : Nat}, SV.lts n l = true → SV.lts n (l.set i s) = true
 | [], _, h => h
 | a :: r, 0, h => by
  simp only [SV.lts, Bool.and_eq_true, List.set_cons_zero] at h ⊢
  exact ⟨hs, h.2⟩
 | a :: r, i + 1, h => by
  simp only [SV.lts, Bool.and_eq_true, List.set_cons_succ] at h ⊢
  exact ⟨h.1, lts_set hs h.2⟩
theorem cs_set (β : Nat → Nat) (s : SV) : ∀ (l : List SV) (i : Nat), SV.cs β (l.set i s) = (SV.cs β l).set i (s.c β) := fun l i => by
 rw [SV.cs_eq, SV.cs_eq, List.map_set]
theorem ldM {P : Program} (T : Env P) {dst : Option Tmp} {ty : TypeId} {pos : String} {after : Array Edge} {gd : Option (Nat × Bool)} {gs : List Nat} {σ : Sg} {K : Ef → Prop} {t i o j n e : Nat} {x : Operand} {xs : List SV} {ti : TI} (s : SV)
 (hx : gv σ x = some (.ptr i o)) (hm : lk σ.m i = some (.mix j n 1 [] xs e)) (ht : T.ty t = some ti) (hsz : ti.size = 1) (hag : ti.kind.agg = false) (hs : xs[o]? = some s) (hlt : SV.lt σ.nb s = true)
 (hK : K ⟨s, [], [], gs ++ os x, [i]⟩) : OpEv P ⟨dst, .load t x, ty, pos, after, gd⟩ gs σ K := by
 refine .mk ⟨s, [], [], gs ++ os x, [i]⟩ (by simp [efB, eqs, modsLt, oldB, keysB, nodupB, hlt]) (fun k hk => by simp [hk]) rfl (runOK_pure fun β a w hss => ?_) hK
 have htok := T.tok t ti ht
 have e1 := gv_eval hss hx (fun k hk => by simp [hk])
 have e2 : w.ownsRow 0 e 1 (.slice (some ⟨β i, 0, none⟩) n (β j)) n (SV.cs β xs) := by
  have := hss.m i (by simp) _ hm
  simpa [Blk.ok] using this
 have e3 := run_loadVar_cells (P := P) htok (β := β) (w := w) (ad := ⟨β i, o, none⟩) (l := [s]) (s := s) (by rw [hsz]; rfl) (fun q v hv => by
  rw [own_add]
  have hv' : (SV.cs β xs)[o + q]? = some v := by
   match q, hv with
   | 0, hv =>
    rw [cs_getElem?, Nat.add_zero, hs]
    simpa [SV.cs] using hv
  have := e2.cells (g := β i) rfl _ _ hv'
  rw [own_add, Nat.zero_add] at this
  exact this) (.inr ⟨hag, rfl⟩)
 simp [execOp, Instr.loadAt, Instr.sureAddr, e1, SV.c, e3]
theorem stM {P : Program} (T : Env P) {dst : Option Tmp} {ty : TypeId} {pos : String} {after : Array Edge} {gd : Option (Nat × Bool)} {gs : List Nat} {σ : Sg} {K : Ef → Prop} {t i o j n e : Nat} {x y : Operand} {xs : List SV} {ti : TI} (s : SV)
 (hx : gv σ x = some (.ptr i o)) (hy : gv σ y = some s) (hm : lk σ.m i = some (.mix j n 1 [] xs e)) (ht : T.ty t = some ti) (hsz : ti.size = 1) (hcl : s.cells = [s]) (ho1 : ones s.cells = true) (ho : o < xs.length)
 (hi : Nat.blt i σ.nb = true) (hj : Nat.blt j σ.nb = true) (hls : SV.lts σ.nb xs = true) (hlt : SV.lt σ.nb s = true)
 (hK : K ⟨.v undef, [], [(i, .mix j n 1 [] (xs.set o s) e)], gs ++ (os x ++ os y), [i]⟩) : OpEv P ⟨dst, .store t x y, ty, pos, after, gd⟩ gs σ K := by
 refine .mk ⟨.v undef, [], [(i, .mix j n 1 [] (xs.set o s) e)], gs ++ (os x ++ os y), [i]⟩ (by simp [efB, eqs, modsLt, oldB, keysB, nodupB, hi, hj, Blk.lt, lts_set hlt hls, hm, Blk.live, SV.lt, nin]) (fun k hk => by simp [hk]) rfl (fun β a w hs => ?_) hK
 have htok := T.tok t ti ht
 have e1 := gv_eval hs hx (fun k hk => by simp [hk])
 have e2 := gv_eval hs hy (fun k hk => by simp [hk])
 have e3 : w.ownsRow 0 e 1 (.slice (some ⟨β i, 0, none⟩) n (β j)) n (SV.cs β xs) := by
  have := hs.m i (by simp) _ hm
  simpa [Blk.ok] using this
 have hlenx := e3.1
 rcases e3.2 with ⟨h', _⟩ | ⟨g, cap, cur, q0, q1, q2, q3, q4, q5, q6⟩
 · cases h'
 simp only [Value.slice.injEq, Option.some.injEq, Addr.mk.injEq, and_true, true_and] at q0
 obtain ⟨rfl, rfl⟩ := q0
 have hzc : (s.c β).cells = (SV.cs β s.cells).toArray := by rw [← SV.cells_c]
 have hcs : SV.cs β s.cells = [s.c β] := by rw [hcl]; rfl
 have hxl : (SV.cs β xs).length ≤ cur.size := by
  have := congrArg List.length q6
  rw [List.length_take, Array.length_toList] at this
  omega
 have hcl' : (SV.cs β xs).length = xs.length := by rw [SV.cs_eq, List.length_map]
 have hrun := run_storeCells_at (P := P) (β i) o e (SV.cs β s.cells) 0 cur w q2 (by rw [hcs]; simp only [List.length_singleton]; omega) (ones_c β ho1)
 have hszc : (s.c β).cells.size = ti.size := by rw [hzc, hcs, hsz]; rfl
 refine ⟨β, w.setRow (β i) (cur.toList.take (o + 0) ++ SV.cs β s.cells ++ cur.toList.drop (o + 0 + (SV.cs β s.cells).length)).toArray, ?_, .inr ⟨?_, rfl⟩⟩
 · refine ⟨fun _ _ => rfl, ⟨rfl, rfl, rfl, by simp [World.setRow], fun b hb hX => ?_⟩, fun q b hq => ?_, fun q hq => (by cases hq), fun q hq => (by cases hq)⟩
   · have hne : β i ≠ b := fun e => hX ⟨i, _, List.mem_singleton.2 rfl, by simp, e⟩
     simp only [World.setRow, Array.getElem?_modify]
     rw [if_neg hne]
   · simp only [List.mem_singleton, Prod.mk.injEq] at hq
     obtain ⟨rfl, rfl⟩ := hq
     have hoc : o < cur.toList.length := by rw [Array.length_toList]; omega
     have hc' : cur.toList.take (o + 0) ++ SV.cs β s.cells ++ cur.toList.drop (o + 0 + (SV.cs β s.cells).length) = cur.toList.set o (s.c β) := by
      rw [hcs, List.set_eq_take_append_cons_drop, if_pos hoc]
      simp
     rw [hc']
     show World.ownsRow _ 0 e 1 (.slice (some ⟨β q, 0, none⟩) n (β j)) n ([] ++ SV.cs β (xs.set o s))
     rw [List.nil_append, cs_set]
     refine ⟨by rw [List.length_set]; exact hlenx, .inr ⟨_, _, _, rfl, q1, setRow_heap w _ cur _ e _ q2, q3, q4, ?_, ?_⟩⟩
     · rw [List.size_toArray, List.length_set, Array.length_toList]; exact q5
     · rw [← q6, List.take_set]
 · simp only [execOp, Instr.storeAt, Instr.sureAddr, e1, e2, SV.c, Sem.run_bind, Sem.run_pure, Result.andThen_ok, storeVar, htok.run_sizeOf w, hszc, ne_eq, not_true_eq_false, if_false]
   rw [hzc]
   simp only [hrun, Result.andThen_ok]
def GEqR (ρ : Nat → Nat) : List (Nat × SV) → Prop
 | [] => True
 | (_, s) :: r => (∀ β : Nat → Nat, s.c (fun i => β (ρ i)) = s.c β) ∧ GEqR ρ r
theorem GEqR.get {ρ : Nat → Nat} : ∀ {l : List (Nat × SV)}, GEqR ρ l → ∀ k s, lk l k = some s → ∀ β : Nat → Nat, s.c (fun i => β (ρ i)) = s.c β
 | (j, x) :: r, ha, k, s, h => by
  simp only [lk] at h
  cases hb : Nat.beq k j with
  | true => rw [hb, cond_true, Option.some.injEq] at h; subst h; exact ha.1
  | false => rw [hb, cond_false] at h; exact ha.2.get k s h
end Go.Proofs.YtkbfcofifhngfaaGreat.Tx
namespace Go.Proofs.YtkbfcofifhngfaaGreat.Tx
open Go Go.RowKit
theorem Dis.mk5 {α : Type} {nt nb nb' : Nat} {t : List (Nat × SV)} {m : List (Nat × Blk)} {h : World → Prop} {z : Gz} (ρ : Nat → Nat) (L : List Nat) {t' : α → List (Nat × SV)} {m' : α → List (Nat × Blk)} {h' : α → World → Prop} {pre : α → Prop} {w0 : World}
 (hz : GEqR ρ z.g) (hL : ∀ i ∈ L, ∃ b, lk m i = some b ∧ b.live = true) (hbel : ∀ w, h w → Below w0.heap.size w0 w)
 (hx : ∀ β w, (∀ i b, lk m i = some b → b.ok β w (β i)) → h w → (∀ i b, lk m i = some b → b.live = true → w0.heap.size ≤ β i) → (∀ i b c, lk m i = some b → b.live = true → (∀ w, h w → ∃ cs ty fr, w.heap[c]? = some (.cells cs ty fr)) → β i ≠ c) → (∀ i j bi bj, lk m i = some bi → lk m j = some bj → bi.live = true → bj.live = true → i ≠ j → β i ≠ β j) →
  ∃ x, pre x ∧ TEqR ρ β t (t' x) ∧ MEqR ρ L β m (m' x) ∧ injR ρ (m' x) = true ∧ ∀ w2, h w2 → (∀ i ∈ L, ∀ b, lk m i = some b → b.ok β w2 (β i)) → h' x w2) :
 Dis ⟨nt, t, m, nb, h, z⟩ (fun x => ⟨nt, t' x, m' x, nb', h' x, z⟩) pre := by
 unfold Dis
 rintro X a w ⟨β, D, hs⟩
 have hmem := hs.mem
 obtain ⟨x, hp, ht, hm, hinj, hh⟩ := hx β w hs.m (hs.h w (Chg.refl _ _)) (fun i b hi hl => Nat.le_of_not_lt fun hlt => hmem.out i b hi hl (hmem.old hbel hlt)) (fun i b c hi hl hc e => hs.out i b hi hl (by rw [e]; exact hs.dof hc)) (fun i j bi bj hi hj l1 l2 hne => hs.inj i j bi bj hi hj l1 l2 hne)
 have hLc : ∀ i ∈ L, ∃ o, w.heap[β i]? = some o ∧ IsMem o := fun i hi => by
  obtain ⟨b, h1, h2⟩ := hL i hi
  exact Blk.ok_cells h2 (hs.m i b h1)
 have hno : ∀ (d : Nat) (o : Obj), w.heap[d]? = some o → Other o → ¬ ∃ i ∈ L, β i = d := by
  rintro d o h1 h2 ⟨i, hi, rfl⟩
  obtain ⟨o3, h3, h4⟩ := hLc i hi
  rw [h1] at h3
  cases h3
  exact h2 h4
 refine ⟨x, hp, fun i => β (ρ i), fun b => D b ∨ ∃ i ∈ L, β i = b, ?_, hs.size, ?_, ?_, ?_, ?_, ?_, ?_, ?_⟩
 · obtain ⟨l, l1, l2, l3⟩ := hs.defers
   refine ⟨l, l1, l2, fun d hd => ⟨(l3 d hd).1, ?_, (l3 d hd).2.2⟩⟩
   rintro (h1 | h1)
   · exact (l3 d hd).2.1 h1
   · exact hno d _ (l3 d hd).1 (fun h => h) h1
 · intro k s hk
   obtain ⟨s', h1, h2⟩ := ht.get k s hk
   rw [← h2]; exact hs.t k s' h1
 · intro i b hi
   obtain ⟨_, b', h1, _, h2⟩ := hm.get i b hi
   exact h2 _ _ (hs.m _ b' h1)
 · intro i j bi bj hi hj h1 h2 hne
   obtain ⟨_, b', hi', l1, _⟩ := hm.get i bi hi
   obtain ⟨_, b2', hj', l2, _⟩ := hm.get j bj hj
   exact hs.inj _ _ _ _ hi' hj' (l1 h1) (l2 h2) (injR_spec hinj i j (lk_key hi) (lk_key hj) hne)
 · intro i b hi hl
   obtain ⟨hn, b', hi', l1, _⟩ := hm.get i b hi
   rintro (h1 | ⟨j, hj, h1⟩)
   · exact hs.out _ _ hi' (l1 hl) h1
   · obtain ⟨bj, h2, h3⟩ := hL j hj
     refine hs.inj j _ _ _ h2 hi' h3 (l1 hl) (fun e => ?_) h1
     subst e
     exact nin_iff.1 hn hj
 · rintro b (h1 | ⟨j, hj, rfl⟩)
   · exact hs.dlt b h1
   · obtain ⟨o3, h3, _⟩ := hLc j hj
     exact (Array.getElem?_eq_some_iff.1 h3).1
 · intro w2 hc
   refine hh w2 (hs.h w2 ⟨hc.os, hc.tape, hc.output, hc.size, fun b hb hd => hc.same b hb fun h1 => hd fun h2 => h1 (.inl h2)⟩) fun i hi b hb => ?_
   obtain ⟨o3, h3, _⟩ := hLc i hi
   exact Blk.keep_at (hc.same _ (Array.getElem?_eq_some_iff.1 h3).1 fun h1 => h1 (.inr ⟨i, hi, rfl⟩)) (hs.m i b hb)
 · refine ⟨fun k s hk => (hs.amb.g k s hk).trans (hz.get k s hk β).symm, fun p hp' => ⟨(hs.amb.la p hp').1, ?_⟩, hs.amb.lq, hs.amb.dep, hs.amb.nd, fun d hd => ⟨(hs.amb.pr d hd).1, ?_⟩⟩
   · rintro (h1 | h1)
     · exact (hs.amb.la p hp').2 h1
     · obtain ⟨st, pd, h2⟩ := (hs.amb.la p hp').1
       exact hno _ _ h2 (fun h => h) h1
   · rintro (h1 | h1)
     · exact (hs.amb.pr d hd).2 h1
     · exact hno _ _ (hs.amb.pr d hd).1 (fun h => h) h1
end Go.Proofs.YtkbfcofifhngfaaGreat.Tx
namespace Go.Proofs.YtkbfcofifhngfaaGreat
open Go Tx Go.RowKit
theorem own_heap {w : World} {b n c sz ty : Nat} {xs : List Value} (h : w.ownsRow 0 ty sz (.slice (some ⟨b, 0, none⟩) n c) n xs) : ∃ cur, w.heap[b]? = some (.cells cur ty (0, 0)) := by
 rcases h.2 with ⟨h', _⟩ | ⟨g, cap, cur, q0, q1, q2, _⟩
 · cases h'
 · simp only [Value.slice.injEq, Option.some.injEq, Addr.mk.injEq, and_true, true_and] at q0
   obtain ⟨rfl, rfl⟩ := q0
   exact ⟨cur, q2⟩
theorem own_keep {w w2 : World} {b n c sz ty : Nat} {xs : List Value} (h : w.ownsRow 0 ty sz (.slice (some ⟨b, 0, none⟩) n c) n xs) (e : w2.heap[b]? = w.heap[b]?) : w2.ownsRow 0 ty sz (.slice (some ⟨b, 0, none⟩) n c) n xs := by
 have := Blk.keep_at (β := fun _ => c) (b := b) (k := .own 0 n sz xs ty) e h
 exact this
theorem rows_st {α : Type} {sz : Nat} {f : α → List Value} (hf : ∀ x, (f x).length = sz) {bs : List α} {w : World} {m b n ty c : Nat} {xs : List Value} (hn : n = bs.length) (hx : xs = bs.flatMap f) (hb : m ≤ b) (h : w.ownsRow 0 ty sz (.slice (some ⟨b, 0, none⟩) n c) n xs) :
 St m (Rd sz f (.slice (some ⟨b, 0, none⟩) n c) bs) w := fun w2 k => by
 obtain ⟨cur, hc⟩ := own_heap h
 exact Rd.of_owns (sz := sz) (f := f) hf hx hn (own_keep h (k.same b hb (Array.getElem?_eq_some_iff.1 hc).1))
theorem own_cap {w : World} {b n c sz ty : Nat} {xs : List Value} (h : w.ownsRow 0 ty sz (.slice (some ⟨b, 0, none⟩) n c) n xs) : n ≤ c := by
 rcases h.2 with ⟨h', _⟩ | ⟨g, cap, cur, q0, q1, q2, q3, _⟩
 · cases h'
 · simp only [Value.slice.injEq] at q0
   obtain ⟨_, _, rfl⟩ := q0
   exact q3
end Go.Proofs.YtkbfcofifhngfaaGreat
namespace Go.Proofs.YtkbfcofifhngfaaGreat
open Go Tx Go.RowKit
structure TbG where
 o : Nat
 c : Nat
 D : List (Nat × Nat)
abbrev TbG.v (y : TbG) : Value := .slice (some ⟨y.o, 0, none⟩) y.D.length y.c
structure TbIn (m N : Nat) (y : TbG) (C : List (List Int)) (w : World) : Prop where
 l : C.length = y.D.length
 n : ∀ r ∈ C, r.length = N
 h : w.ownsRow 0 36 1 (.slice (some ⟨y.o, 0, none⟩) y.D.length y.c) y.D.length (y.D.map fun p => .slice (some ⟨p.1, 0, none⟩) N p.2)
 r : ∀ (i : Nat) (p : Nat × Nat) (xs : List Int), y.D[i]? = some p → C[i]? = some xs → w.ownsRow 0 3 1 (.slice (some ⟨p.1, 0, none⟩) N p.2) N (xs.flatMap iF)
 d : (y.D.map Prod.fst).Nodup
 a : ∀ p ∈ y.D, m ≤ p.1 ∧ p.1 ≠ y.o
 m : m ≤ y.o
theorem TbIn.keep {m N : Nat} {y : TbG} {C : List (List Int)} {w w2 : World} (h : TbIn m N y C w) (hs : ∀ c, m ≤ c → c < w.heap.size → w2.heap[c]? = w.heap[c]?) : TbIn m N y C w2 :=
 ⟨h.l, h.n, own_keep h.h (hs _ h.m (by obtain ⟨c, hc⟩ := own_heap h.h; exact (Array.getElem?_eq_some_iff.1 hc).1)), fun i p xs h1 h2 => own_keep (h.r i p xs h1 h2) (hs _ (h.a p (List.mem_of_getElem? h1)).1 (by obtain ⟨c, hc⟩ := own_heap (h.r i p xs h1 h2); exact (Array.getElem?_eq_some_iff.1 hc).1)), h.d, h.a, h.m⟩
theorem TbIn.st {m N : Nat} {y : TbG} {C : List (List Int)} {w : World} (h : TbIn m N y C w) : St m (TbIn m N y C) w := fun w2 k => h.keep fun c h1 h2 => k.same c h1 h2
theorem TbIn.set {m N : Nat} {y : TbG} {C : List (List Int)} {w : World} {i j : Nat} {p : Nat × Nat} {xs0 : List Int} {v : Int} (h : TbIn m N y C w) (hr : y.D[i]? = some p) (hx0 : C[i]? = some xs0) (hj : j < N) :
 TbIn m N y (C.set i (xs0.set j v)) (w.setCell ⟨p.1, j, none⟩ (iv v)) := by
 have hpa := h.a p (List.mem_of_getElem? hr)
 have hN := h.n xs0 (List.mem_of_getElem? hx0)
 refine ⟨by rw [List.length_set]; exact h.l, fun r hm => ?_, own_keep h.h (setCell_other fun e => hpa.2 e.symm), fun k q xs hq hx => ?_, h.d, h.a, h.m⟩
 · rcases List.mem_or_eq_of_mem_set hm with hm | rfl
   · exact h.n r hm
   · rw [List.length_set]; exact hN
 · by_cases hp : k = i
   · subst hp
     rw [hr, Option.some.injEq] at hq
     subst hq
     rw [List.getElem?_set, if_pos rfl, if_pos (List.getElem?_eq_some_iff.1 hx0).1, Option.some.injEq] at hx
     subst hx
     have := (World.ownsRow.stored (h.r k p xs0 hr hx0) j (iv v)).1
     have e : (xs0.flatMap iF).set j (iv v) = (xs0.set j v).flatMap iF := by
      rw [← setF (by omega), List.set_eq_take_append_cons_drop, if_pos (by rw [lenF]; omega)]; rfl
     rw [e] at this
     exact this
   · rw [List.getElem?_set, if_neg (fun e => hp e.symm)] at hx
     refine own_keep (h.r k q xs hq hx) (setCell_other fun e => ?_)
     have e1 : (y.D.map Prod.fst)[k]? = some q.1 := by rw [List.getElem?_map, hq]; rfl
     have e2 : (y.D.map Prod.fst)[i]? = some p.1 := by rw [List.getElem?_map, hr]; rfl
     have e : q.1 = p.1 := e
     rw [e] at e1
     exact hp ((List.getElem?_inj (List.getElem?_eq_some_iff.1 e1).1 h.d).1 (e1.trans e2.symm))
theorem below_set {n : Nat} {w w2 : World} {ad : Addr} {v : Value} (h : Below n w w2) (hn : n ≤ ad.block) : Below n w (w2.setCell ad v) := by
 have h3 : (w2.setCell ad v).heap.size = w2.heap.size := setCell_size
 refine ⟨h.os, h.tape, h.output, by rw [h3]; exact h.size, fun b hb => ?_⟩
 rw [setCell_other (by omega)]
 exact h.block b hb
structure Ln where
 g : Int
 j : Int
 t : Int
abbrev Ln.cs (x : Ln) : List Value := [iv x.g, iv x.j, iv x.t]
structure Lr where
 o : Option Addr
 c : Nat
 L : List Ln
abbrev Lr.cs (r : Lr) : List Value := [.slice r.o r.L.length r.c]
structure TbL (o : Option Addr) (c : Nat) (D : List Lr) (w : World) : Prop where
 t : Rd 1 Lr.cs (.slice o D.length c) D w
 r : ∀ r ∈ D, Rd 3 Ln.cs (.slice r.o r.L.length r.c) r.L w
theorem TbL.below {o : Option Addr} {c : Nat} {D : List Lr} {w w' : World} (h : TbL o c D w) (hb : Below w.heap.size w w') : TbL o c D w' := ⟨h.t.below hb, fun r hr => (h.r r hr).below hb⟩
structure TbF (X : List (List Ln)) where
 o : Option Addr
 c : Nat
 D : List Lr
 h : D.map Lr.L = X
 k : ∀ r ∈ D, r.L.length ≤ r.c ∧ (r.L = [] → r.o = none ∧ r.c = 0)
abbrev TbF.v {X : List (List Ln)} (y : TbF X) : Value := .slice y.o y.D.length y.c
theorem table_ok (o : Option Addr) (c : Nat) (S : List Lr) (w : World) (h : TbL o c S w) (hl : S.length ≤ 1000000) (hrl : ∀ r ∈ S, r.L.length ≤ 1000000) :
 Calls Tryz.prog 29 #[.slice o S.length c] w fun e w' => ∃ y : TbF (S.map Lr.L), e = .returned y.v ∧ Below w.heap.size w w' ∧ St w.heap.size (TbL y.o y.c y.D) w' := by
 obtain ⟨hrd, hR⟩ := h
 refine calls_fam env mixed Tryz.func29 has29 Tryz.ntmps29 [.slice o S.length c] (by simp) ?_
 skip
 refine loopD 2 (fun D : List Lr => [(0, .v (.slice o S.length c)), (3, oSV 0 1 D), (4, .v (iv D.length))]) (fun D => oM 0 1 1 Lr.cs 44 D)
  (fun (D : List Lr) w' => Below w.heap.size w w' ∧ ∀ r ∈ D, St w.heap.size (Rd 3 Ln.cs (.slice r.o r.L.length r.c) r.L) w' ∧ r.L.length ≤ r.c ∧ (r.L = [] → r.o = none ∧ r.c = 0))
  (fun D => D.length ≤ S.length ∧ D.map Lr.L = (S.map Lr.L).take D.length) (fun D => S.length - D.length) (Dis.ent (x := []) ⟨Nat.zero_le _, rfl⟩ (Ent.weak rfl ⟨rfl, rfl, rfl, trivial⟩ trivial (fun w' h => ⟨h, fun r hr => by cases hr⟩))) (fun D _ => by cases D <;> exact ⟨rfl, rfl⟩) ?_
 intro D ⟨hk, hmap⟩
 rcases Nat.lt_or_ge D.length S.length with hkl | hkl
 · obtain ⟨⟨so, sc, L⟩, hx⟩ : ∃ b, S[D.length]? = some b := ⟨_, List.getElem?_eq_getElem hkl⟩
   obtain ⟨_, ad, rfl, _⟩ := hrd.ptr (by omega)
   have e1 := fun (w' : World) hw' => rd_ati (hrd.below (w' := w') hw') hx
   have hr := hR _ (List.mem_of_getElem? hx)
   have hrb := hrl _ (List.mem_of_getElem? hx)
   dsimp only at hr hrb
   have hm : (S.map Lr.L)[D.length]? = some L := by rw [List.getElem?_map, hx]; rfl
   have hnew : ∀ y : Option Addr × Nat, (D ++ [(⟨y.1, y.2, L⟩ : Lr)]).map Lr.L = (S.map Lr.L).take (D ++ [(⟨y.1, y.2, L⟩ : Lr)]).length := fun y => by
    rw [List.map_append, hmap, List.length_append, List.length_singleton, List.take_add_one, hm]; rfl
   have hl2 : ∀ y : Option Addr × Nat, (D ++ [(⟨y.1, y.2, L⟩ : Lr)]).length = D.length + 1 := fun y => by simp
   have hh0 : ∀ (o : Option Addr) (c : Nat), L = [] → ∀ w', (fun (D : List Lr) w' => Below w.heap.size w w' ∧ ∀ r ∈ D, St w.heap.size (Rd 3 Ln.cs (.slice r.o r.L.length r.c) r.L) w' ∧ r.L.length ≤ r.c ∧ (r.L = [] → r.o = none ∧ r.c = 0)) D w' → (o = none ∧ c = 0 → (fun (D : List Lr) w' => Below w.heap.size w w' ∧ ∀ r ∈ D, St w.heap.size (Rd 3 Ln.cs (.slice r.o r.L.length r.c) r.L) w' ∧ r.L.length ≤ r.c ∧ (r.L = [] → r.o = none ∧ r.c = 0)) (D ++ [(⟨o, c, L⟩ : Lr)]) w') := fun o c hxs w' h hoc => ⟨h.1, fun r hr => by
    rcases List.mem_append.1 hr with hr | hr
    · exact h.2 r hr
    · rw [List.mem_singleton] at hr; subst hr; subst hxs; obtain ⟨rfl, rfl⟩ := hoc; exact ⟨fun _ _ => .inl ⟨rfl, rfl⟩, Nat.le_refl _, fun _ => ⟨rfl, rfl⟩⟩⟩
   have hh1 : ∀ (b d : Nat) (w' : World), L ≠ [] → w.heap.size ≤ b → (fun (D : List Lr) w' => Below w.heap.size w w' ∧ ∀ r ∈ D, St w.heap.size (Rd 3 Ln.cs (.slice r.o r.L.length r.c) r.L) w' ∧ r.L.length ≤ r.c ∧ (r.L = [] → r.o = none ∧ r.c = 0)) D w' → w'.ownsRow 0 46 3 (.slice (some ⟨b, 0, none⟩) L.length d) L.length (L.flatMap Ln.cs) →
    (fun (D : List Lr) w' => Below w.heap.size w w' ∧ ∀ r ∈ D, St w.heap.size (Rd 3 Ln.cs (.slice r.o r.L.length r.c) r.L) w' ∧ r.L.length ≤ r.c ∧ (r.L = [] → r.o = none ∧ r.c = 0)) (D ++ [(⟨some ⟨b, 0, none⟩, d, L⟩ : Lr)]) w' := fun b d w' hne hb h ho => ⟨h.1, fun r hr => by
    rcases List.mem_append.1 hr with hr | hr
    · exact h.2 r hr
    · rw [List.mem_singleton] at hr; subst hr; exact ⟨rows_st (sz := 3) (f := Ln.cs) (fun _ => rfl) rfl rfl hb ho, own_cap ho, fun h => absurd h hne⟩⟩
   have hSl : S.length ≤ 1000000 := hl
   generalize hn : D.length = n at *
   repeat'
    conv => whnf
    first
     |(refine splD ?_ ?_ <;> intro hc <;> first|(exfalso; omega)|skip)
   conv => whnf
   refine loopN 4 (fun k : Nat => [(0, .v (.slice (some ad) S.length c)), (3, oSV 0 1 D), (4, .v (iv n)), (5, oSV 2 3 (L.take k)), (6, .v (iv k))]) (fun k => oM 0 1 1 Lr.cs 44 D ++ oM 2 3 3 Ln.cs 46 (L.take k)) (fun k => k ≤ L.length) (fun k => L.length - k) 0 (Nat.zero_le _) ⟨rfl, rfl, rfl, rfl, rfl, trivial⟩ (by cases D <;> first | exact trivial | exact ⟨rfl, trivial⟩) (fun k _ => by cases D <;> cases L.take k <;> exact ⟨rfl, rfl⟩) ?_
   intro k hk3
   rcases Nat.lt_or_ge k L.length with hkl3 | hkl3
   · obtain ⟨⟨x1, x2, x3⟩, hx3⟩ : ∃ b, L[k]? = some b := ⟨_, List.getElem?_eq_getElem hkl3⟩
     obtain ⟨_, ad2, rfl, _⟩ := hr.ptr (by omega)
     have e2 := fun (w' : World) hw' => rd_fld (hr.below (w' := w') hw') hx3
     have ht : L.take (k + 1) = L.take k ++ [⟨x1, x2, x3⟩] := by rw [List.take_add_one, hx3]; rfl
     have hlen : (L.take k).length ≤ k := List.length_take_le _ _
     generalize L.take k = T at *
     cases D with
     | nil =>
      cases T with
      | nil =>
       repeat'
        conv => whnf
        first
         |refine zA ?_|refine zB ?_|refine zF ?_|refine zG ?_|refine zI ?_
         |(refine splD ?_ ?_ <;> intro hc <;> first|(exfalso; omega)|skip)
         |refine eL [.slice (some ad2) L.length sc] ⟨⟨rfl, fun w' hw' => e1 w' hw'.1⟩, ?_⟩
         |refine eL [iv x1] ⟨⟨rfl, fun w' hw' => e2 w' hw'.1 0 _ rfl⟩, ?_⟩
         |refine eL [iv x2] ⟨⟨rfl, fun w' hw' => e2 w' hw'.1 1 _ rfl⟩, ?_⟩
         |refine eL [iv x3] ⟨⟨rfl, fun w' hw' => e2 w' hw'.1 2 _ rfl⟩, ?_⟩
       all_goals exact ⟨k + 1, by omega, by omega, Ent.ren (rho [(2, 5), (3, 6)]) rfl (by rw [ht]; rfl) ⟨rfl, rfl, rfl, by rw [ht]; rfl, rfl, trivial⟩ (by rw [ht]; exact ⟨rfl, trivial⟩) fun _ h => h⟩
      | cons a T =>
       simp only [List.length_cons] at hlen
       repeat'
        conv => whnf
        first
         |refine zA ?_|refine zB ?_|refine zF ?_|refine zG ?_|refine zH ?_|refine zI ?_
         |(refine splD ?_ ?_ <;> intro hc <;> first|(exfalso; omega)|skip)
         |refine eL [.slice (some ad2) L.length sc] ⟨⟨rfl, fun w' hw' => e1 w' hw'.1⟩, ?_⟩
         |refine eL [iv x1] ⟨⟨rfl, fun w' hw' => e2 w' hw'.1 0 _ rfl⟩, ?_⟩
         |refine eL [iv x2] ⟨⟨rfl, fun w' hw' => e2 w' hw'.1 1 _ rfl⟩, ?_⟩
         |refine eL [iv x3] ⟨⟨rfl, fun w' hw' => e2 w' hw'.1 2 _ rfl⟩, ?_⟩
       all_goals exact ⟨k + 1, by omega, by omega, Ent.ren (rho [(2, 5), (3, 6)]) rfl (by rw [ht]; rfl) ⟨rfl, rfl, rfl, by rw [ht]; simp [oSV]; rfl, rfl, trivial⟩ (by rw [ht]; exact ⟨by simp [oM]; rfl, trivial⟩) fun _ h => h⟩
     | cons d0 D =>
      cases T with
      | nil =>
       repeat'
        conv => whnf
        first
         |refine zA ?_|refine zB ?_|refine zF ?_|refine zG ?_|refine zI ?_
         |(refine splD ?_ ?_ <;> intro hc <;> first|(exfalso; omega)|skip)
         |refine eL [.slice (some ad2) L.length sc] ⟨⟨rfl, fun w' hw' => e1 w' hw'.1⟩, ?_⟩
         |refine eL [iv x1] ⟨⟨rfl, fun w' hw' => e2 w' hw'.1 0 _ rfl⟩, ?_⟩
         |refine eL [iv x2] ⟨⟨rfl, fun w' hw' => e2 w' hw'.1 1 _ rfl⟩, ?_⟩
         |refine eL [iv x3] ⟨⟨rfl, fun w' hw' => e2 w' hw'.1 2 _ rfl⟩, ?_⟩
       all_goals exact ⟨k + 1, by omega, by omega, Ent.ren (rho [(2, 5), (3, 6)]) rfl (by rw [ht]; rfl) ⟨rfl, rfl, rfl, by rw [ht]; rfl, rfl, trivial⟩ (by rw [ht]; exact ⟨rfl, rfl, trivial⟩) fun _ h => h⟩
      | cons a T =>
       simp only [List.length_cons] at hlen
       repeat'
        conv => whnf
        first
         |refine zA ?_|refine zB ?_|refine zF ?_|refine zG ?_|refine zH ?_|refine zI ?_
         |(refine splD ?_ ?_ <;> intro hc <;> first|(exfalso; omega)|skip)
         |refine eL [.slice (some ad2) L.length sc] ⟨⟨rfl, fun w' hw' => e1 w' hw'.1⟩, ?_⟩
         |refine eL [iv x1] ⟨⟨rfl, fun w' hw' => e2 w' hw'.1 0 _ rfl⟩, ?_⟩
         |refine eL [iv x2] ⟨⟨rfl, fun w' hw' => e2 w' hw'.1 1 _ rfl⟩, ?_⟩
         |refine eL [iv x3] ⟨⟨rfl, fun w' hw' => e2 w' hw'.1 2 _ rfl⟩, ?_⟩
       all_goals exact ⟨k + 1, by omega, by omega, Ent.ren (rho [(2, 5), (3, 6)]) rfl (by rw [ht]; rfl) ⟨rfl, rfl, rfl, by rw [ht]; simp [oSV]; rfl, rfl, trivial⟩ (by rw [ht]; exact ⟨rfl, by simp [oM]; rfl, trivial⟩) fun _ h => h⟩
   · rw [List.take_of_length_le hkl3]
     cases L with
     | nil =>
      cases D with
      | nil =>
       repeat'
        conv => whnf
        first
         |refine zB ?_|refine zF ?_|refine zG ?_|refine zI ?_|refine splF ?_
         |refine eL [.slice so ([] : List Ln).length sc] ⟨⟨rfl, fun w' hw' => e1 w' hw'.1⟩, ?_⟩
       exact Dis.ent (x := [(⟨none, 0, []⟩ : Lr)]) ⟨⟨by have := hl2 (none, 0); simp only [List.nil_append] at this; omega, hnew (none, 0)⟩, by have := hl2 (none, 0); simp only [List.nil_append] at this; omega⟩ (Ent.ren (rho [(0, 5), (1, 6)]) rfl rfl ⟨rfl, rfl, by rw [← hn]; rfl, trivial⟩ ⟨rfl, trivial⟩ (fun w' h => hh0 none 0 rfl w' h ⟨rfl, rfl⟩))
      | cons a D =>
       simp only [List.length_cons] at hn
       repeat'
        conv => whnf
        first
         |refine zB ?_|refine zF ?_|refine zG ?_|refine zH ?_|refine zI ?_|refine splF ?_
         |refine eL [.slice so ([] : List Ln).length sc] ⟨⟨rfl, fun w' hw' => e1 w' hw'.1⟩, ?_⟩
       have hl3 : (a :: D ++ [(⟨none, 0, []⟩ : Lr)]).length = n + 1 := hl2 (none, 0)
       exact Dis.ent (x := a :: D ++ [(⟨none, 0, []⟩ : Lr)]) ⟨⟨by omega, hnew (none, 0)⟩, by omega⟩ (Ent.ren (rho [(0, 5), (1, 6)]) rfl rfl ⟨rfl, by simp [oSV]; rfl, by rw [← hn]; simp; rfl, trivial⟩ ⟨by simp [oM]; rfl, trivial⟩ (fun w' h => hh0 none 0 rfl w' h ⟨rfl, rfl⟩))
     | cons x L =>
      cases D with
      | nil =>
       repeat'
        conv => whnf
        first
         |refine zB ?_|refine zF ?_|refine zG ?_
         |(refine splD ?_ ?_ <;> intro hc <;> first|(exfalso; omega)|skip)
         |refine eL [.slice so (x :: L).length sc] ⟨⟨rfl, fun w' hw' => e1 w' hw'.1⟩, ?_⟩
         |refine appG env 4 1 1 [.os 2 3 (L.length + 1)] 44 0 [] [] rfl rfl rfl rfl rfl (by decide) rfl rfl rfl (fun _ => Nat.le_refl _) (by omega) (by decide) rfl (.inl ⟨rfl, rfl, rfl, rfl⟩) rfl ?_
       refine Dis.mk3 (w0 := w) (rho [(0, 5), (1, 6)]) [2] rfl (fun i hi => by rw [List.mem_singleton] at hi; subst hi; exact ⟨_, rfl, rfl⟩) (fun w' h => h.1) (fun β w1 hok hw1 hge => ⟨[(⟨some ⟨β 2, 0, none⟩, β 3, x :: L⟩ : Lr)], ⟨⟨by have := hl2 (none, 0); simp only [List.nil_append, List.length_singleton] at this ⊢; omega, hnew (some ⟨β 2, 0, none⟩, β 3)⟩, by have := hl2 (none, 0); simp only [List.nil_append, List.length_singleton] at this ⊢; omega⟩, ⟨⟨_, rfl, rfl⟩, ⟨_, rfl, rfl⟩, ⟨_, rfl, by rw [← hn]; rfl⟩, trivial⟩, ⟨⟨rfl, _, rfl, fun _ => rfl, fun w2 y hy => hy⟩, trivial⟩, rfl, fun w2 hw2 hLo => hh1 (β 2) (β 3) w2 (by simp) (hge 2 _ rfl rfl) hw2 (hLo 2 (by simp) _ rfl)⟩)
      | cons a D =>
       simp only [List.length_cons] at hn
       repeat'
        conv => whnf
        first
         |refine zB ?_|refine zF ?_|refine zG ?_
         |(refine splD ?_ ?_ <;> intro hc <;> first|(exfalso; omega)|skip)
         |refine eL [.slice so (x :: L).length sc] ⟨⟨rfl, fun w' hw' => e1 w' hw'.1⟩, ?_⟩
         |refine appG env 4 1 1 [.os 2 3 (L.length + 1)] 44 (D.length + 1) ((a :: D).flatMap Lr.cs) [0] rfl rfl rfl rfl rfl (by decide) rfl rfl rfl (fun h => by cases h) (by omega) (by show (D.length + 1 + 1) * 24 ≤ 140737488355328; omega) rfl (.inr ⟨0, 1, rfl, rfl, rfl, (by show 0 < 5; decide)⟩) rfl ?_
       have hl3 : ∀ y : Option Addr × Nat, (a :: D ++ [(⟨y.1, y.2, x :: L⟩ : Lr)]).length = D.length + 1 + 1 := fun y => by rw [hl2]; omega
       refine Dis.mk3 (w0 := w) (rho [(0, 5), (1, 6)]) [2] rfl (fun i hi => by rw [List.mem_singleton] at hi; subst hi; exact ⟨_, rfl, rfl⟩) (fun w' h => h.1) (fun β w1 hok hw1 hge => ⟨a :: D ++ [(⟨some ⟨β 2, 0, none⟩, β 3, x :: L⟩ : Lr)], ⟨⟨by have := hl3 (some ⟨β 2, 0, none⟩, β 3); dsimp only at this; omega, hnew (some ⟨β 2, 0, none⟩, β 3)⟩, by have := hl3 (some ⟨β 2, 0, none⟩, β 3); dsimp only at this; omega⟩, ⟨⟨_, rfl, rfl⟩, ⟨_, rfl, by simp [oSV]; rfl⟩, ⟨_, rfl, by rw [hl3 (some ⟨β 2, 0, none⟩, β 3), ← hn]; rfl⟩, trivial⟩, by simp [oM]; exact ⟨⟨rfl, _, rfl, fun _ => rfl, fun w2 y hy => by simp [Blk.ok] at hy ⊢; exact hy⟩, trivial⟩, rfl, fun w2 hw2 hLo => hh1 (β 2) (β 3) w2 (by simp) (hge 2 _ rfl rfl) hw2 (hLo 2 (by simp) _ rfl)⟩)
 · have hk2 : D.length = S.length := by omega
   rw [hk2, List.take_of_length_le (Nat.le_of_eq (List.length_map ..))] at hmap
   cases D with
   | nil =>
    repeat'
     conv => whnf
     first
      |(refine splD ?_ ?_ <;> intro hc <;> first|(exfalso; omega)|skip)
    exact ⟨fun w' h => h.1, fun β w' hB hblk => ⟨⟨none, 0, [], hmap, fun r hr => by cases hr⟩, rfl, fun w2 k2 => ⟨.inl ⟨rfl, rfl⟩, fun r hr => by cases hr⟩⟩⟩
   | cons a L =>
    repeat'
     conv => whnf
     first
      |(refine splD ?_ ?_ <;> intro hc <;> first|(exfalso; omega)|skip)
    refine ⟨fun w' h => h.1, fun β w' hB hblk => ?_⟩
    obtain ⟨y, h1, h2⟩ := oEnd (sz := 1) (f := Lr.cs) (fun _ => rfl) a L (hblk 0 _ rfl rfl)
    exact ⟨⟨y.1, y.2, a :: L, hmap, fun r hr => (hB.2 r hr).2⟩, h1, fun w2 k2 => ⟨h2 w2 k2, fun r hr => (hB.2 r hr).1 w2 k2⟩⟩
theorem Back_ok (o : Option Addr) (c : Nat) (S : List Lr) (w : World) (h : TbL o c S w) (hl : S.length ≤ 1000000) (hrl : ∀ r ∈ S, r.L.length ≤ 1000000) :
 Calls Tryz.prog 18 #[.slice o S.length c] w fun e w' => ∃ y : TbF (S.map Lr.L), e = .returned y.v ∧ Below w.heap.size w w' ∧ St w.heap.size (TbL y.o y.c y.D) w' := by
 obtain ⟨hrd, hR⟩ := h
 refine calls_fam env mixed Tryz.func18 has18 Tryz.ntmps18 [.slice o S.length c] (by simp) ?_
 skip
 refine loopD 2 (fun D : List Lr => [(0, .v (.slice o S.length c)), (3, oSV 0 1 D), (4, .v (iv D.length))]) (fun D => oM 0 1 1 Lr.cs 64 D)
  (fun (D : List Lr) w' => Below w.heap.size w w' ∧ ∀ r ∈ D, St w.heap.size (Rd 3 Ln.cs (.slice r.o r.L.length r.c) r.L) w' ∧ r.L.length ≤ r.c ∧ (r.L = [] → r.o = none ∧ r.c = 0))
  (fun D => D.length ≤ S.length ∧ D.map Lr.L = (S.map Lr.L).take D.length) (fun D => S.length - D.length) (Dis.ent (x := []) ⟨Nat.zero_le _, rfl⟩ (Ent.weak rfl ⟨rfl, rfl, rfl, trivial⟩ trivial (fun w' h => ⟨h, fun r hr => by cases hr⟩))) (fun D _ => by cases D <;> exact ⟨rfl, rfl⟩) ?_
 intro D ⟨hk, hmap⟩
 rcases Nat.lt_or_ge D.length S.length with hkl | hkl
 · obtain ⟨⟨so, sc, L⟩, hx⟩ : ∃ b, S[D.length]? = some b := ⟨_, List.getElem?_eq_getElem hkl⟩
   obtain ⟨_, ad, rfl, _⟩ := hrd.ptr (by omega)
   have e1 := fun (w' : World) hw' => rd_ati (hrd.below (w' := w') hw') hx
   have hr := hR _ (List.mem_of_getElem? hx)
   have hrb := hrl _ (List.mem_of_getElem? hx)
   dsimp only at hr hrb
   have hm : (S.map Lr.L)[D.length]? = some L := by rw [List.getElem?_map, hx]; rfl
   have hnew : ∀ y : Option Addr × Nat, (D ++ [(⟨y.1, y.2, L⟩ : Lr)]).map Lr.L = (S.map Lr.L).take (D ++ [(⟨y.1, y.2, L⟩ : Lr)]).length := fun y => by
    rw [List.map_append, hmap, List.length_append, List.length_singleton, List.take_add_one, hm]; rfl
   have hl2 : ∀ y : Option Addr × Nat, (D ++ [(⟨y.1, y.2, L⟩ : Lr)]).length = D.length + 1 := fun y => by simp
   have hh0 : ∀ (o : Option Addr) (c : Nat), L = [] → ∀ w', (fun (D : List Lr) w' => Below w.heap.size w w' ∧ ∀ r ∈ D, St w.heap.size (Rd 3 Ln.cs (.slice r.o r.L.length r.c) r.L) w' ∧ r.L.length ≤ r.c ∧ (r.L = [] → r.o = none ∧ r.c = 0)) D w' → (o = none ∧ c = 0 → (fun (D : List Lr) w' => Below w.heap.size w w' ∧ ∀ r ∈ D, St w.heap.size (Rd 3 Ln.cs (.slice r.o r.L.length r.c) r.L) w' ∧ r.L.length ≤ r.c ∧ (r.L = [] → r.o = none ∧ r.c = 0)) (D ++ [(⟨o, c, L⟩ : Lr)]) w') := fun o c hxs w' h hoc => ⟨h.1, fun r hr => by
    rcases List.mem_append.1 hr with hr | hr
    · exact h.2 r hr
    · rw [List.mem_singleton] at hr; subst hr; subst hxs; obtain ⟨rfl, rfl⟩ := hoc; exact ⟨fun _ _ => .inl ⟨rfl, rfl⟩, Nat.le_refl _, fun _ => ⟨rfl, rfl⟩⟩⟩
   have hh1 : ∀ (b d : Nat) (w' : World), L ≠ [] → w.heap.size ≤ b → (fun (D : List Lr) w' => Below w.heap.size w w' ∧ ∀ r ∈ D, St w.heap.size (Rd 3 Ln.cs (.slice r.o r.L.length r.c) r.L) w' ∧ r.L.length ≤ r.c ∧ (r.L = [] → r.o = none ∧ r.c = 0)) D w' → w'.ownsRow 0 109 3 (.slice (some ⟨b, 0, none⟩) L.length d) L.length (L.flatMap Ln.cs) →
    (fun (D : List Lr) w' => Below w.heap.size w w' ∧ ∀ r ∈ D, St w.heap.size (Rd 3 Ln.cs (.slice r.o r.L.length r.c) r.L) w' ∧ r.L.length ≤ r.c ∧ (r.L = [] → r.o = none ∧ r.c = 0)) (D ++ [(⟨some ⟨b, 0, none⟩, d, L⟩ : Lr)]) w' := fun b d w' hne hb h ho => ⟨h.1, fun r hr => by
    rcases List.mem_append.1 hr with hr | hr
    · exact h.2 r hr
    · rw [List.mem_singleton] at hr; subst hr; exact ⟨rows_st (sz := 3) (f := Ln.cs) (fun _ => rfl) rfl rfl hb ho, own_cap ho, fun h => absurd h hne⟩⟩
   have hSl : S.length ≤ 1000000 := hl
   generalize hn : D.length = n at *
   repeat'
    conv => whnf
    first
     |(refine splD ?_ ?_ <;> intro hc <;> first|(exfalso; omega)|skip)
   conv => whnf
   refine loopN 4 (fun k : Nat => [(0, .v (.slice (some ad) S.length c)), (3, oSV 0 1 D), (4, .v (iv n)), (5, oSV 2 3 (L.take k)), (6, .v (iv k))]) (fun k => oM 0 1 1 Lr.cs 64 D ++ oM 2 3 3 Ln.cs 109 (L.take k)) (fun k => k ≤ L.length) (fun k => L.length - k) 0 (Nat.zero_le _) ⟨rfl, rfl, rfl, rfl, rfl, trivial⟩ (by cases D <;> first | exact trivial | exact ⟨rfl, trivial⟩) (fun k _ => by cases D <;> cases L.take k <;> exact ⟨rfl, rfl⟩) ?_
   intro k hk3
   rcases Nat.lt_or_ge k L.length with hkl3 | hkl3
   · obtain ⟨⟨x1, x2, x3⟩, hx3⟩ : ∃ b, L[k]? = some b := ⟨_, List.getElem?_eq_getElem hkl3⟩
     obtain ⟨_, ad2, rfl, _⟩ := hr.ptr (by omega)
     have e2 := fun (w' : World) hw' => rd_fld (hr.below (w' := w') hw') hx3
     have ht : L.take (k + 1) = L.take k ++ [⟨x1, x2, x3⟩] := by rw [List.take_add_one, hx3]; rfl
     have hlen : (L.take k).length ≤ k := List.length_take_le _ _
     generalize L.take k = T at *
     cases D with
     | nil =>
      cases T with
      | nil =>
       repeat'
        conv => whnf
        first
         |refine zA ?_|refine zB ?_|refine zF ?_|refine zG ?_|refine zI ?_
         |(refine splD ?_ ?_ <;> intro hc <;> first|(exfalso; omega)|skip)
         |refine eL [.slice (some ad2) L.length sc] ⟨⟨rfl, fun w' hw' => e1 w' hw'.1⟩, ?_⟩
         |refine eL [iv x1] ⟨⟨rfl, fun w' hw' => e2 w' hw'.1 0 _ rfl⟩, ?_⟩
         |refine eL [iv x2] ⟨⟨rfl, fun w' hw' => e2 w' hw'.1 1 _ rfl⟩, ?_⟩
         |refine eL [iv x3] ⟨⟨rfl, fun w' hw' => e2 w' hw'.1 2 _ rfl⟩, ?_⟩
       all_goals exact ⟨k + 1, by omega, by omega, Ent.ren (rho [(2, 5), (3, 6)]) rfl (by rw [ht]; rfl) ⟨rfl, rfl, rfl, by rw [ht]; rfl, rfl, trivial⟩ (by rw [ht]; exact ⟨rfl, trivial⟩) fun _ h => h⟩
      | cons a T =>
       simp only [List.length_cons] at hlen
       repeat'
        conv => whnf
        first
         |refine zA ?_|refine zB ?_|refine zF ?_|refine zG ?_|refine zH ?_|refine zI ?_
         |(refine splD ?_ ?_ <;> intro hc <;> first|(exfalso; omega)|skip)
         |refine eL [.slice (some ad2) L.length sc] ⟨⟨rfl, fun w' hw' => e1 w' hw'.1⟩, ?_⟩
         |refine eL [iv x1] ⟨⟨rfl, fun w' hw' => e2 w' hw'.1 0 _ rfl⟩, ?_⟩
         |refine eL [iv x2] ⟨⟨rfl, fun w' hw' => e2 w' hw'.1 1 _ rfl⟩, ?_⟩
         |refine eL [iv x3] ⟨⟨rfl, fun w' hw' => e2 w' hw'.1 2 _ rfl⟩, ?_⟩
       all_goals exact ⟨k + 1, by omega, by omega, Ent.ren (rho [(2, 5), (3, 6)]) rfl (by rw [ht]; rfl) ⟨rfl, rfl, rfl, by rw [ht]; simp [oSV]; rfl, rfl, trivial⟩ (by rw [ht]; exact ⟨by simp [oM]; rfl, trivial⟩) fun _ h => h⟩
     | cons d0 D =>
      cases T with
      | nil =>
       repeat'
        conv => whnf
        first
         |refine zA ?_|refine zB ?_|refine zF ?_|refine zG ?_|refine zI ?_
         |(refine splD ?_ ?_ <;> intro hc <;> first|(exfalso; omega)|skip)
         |refine eL [.slice (some ad2) L.length sc] ⟨⟨rfl, fun w' hw' => e1 w' hw'.1⟩, ?_⟩
         |refine eL [iv x1] ⟨⟨rfl, fun w' hw' => e2 w' hw'.1 0 _ rfl⟩, ?_⟩
         |refine eL [iv x2] ⟨⟨rfl, fun w' hw' => e2 w' hw'.1 1 _ rfl⟩, ?_⟩
         |refine eL [iv x3] ⟨⟨rfl, fun w' hw' => e2 w' hw'.1 2 _ rfl⟩, ?_⟩
       all_goals exact ⟨k + 1, by omega, by omega, Ent.ren (rho [(2, 5), (3, 6)]) rfl (by rw [ht]; rfl) ⟨rfl, rfl, rfl, by rw [ht]; rfl, rfl, trivial⟩ (by rw [ht]; exact ⟨rfl, rfl, trivial⟩) fun _ h => h⟩
      | cons a T =>
       simp only [List.length_cons] at hlen
       repeat'
        conv => whnf
        first
         |refine zA ?_|refine zB ?_|refine zF ?_|refine zG ?_|refine zH ?_|refine zI ?_
         |(refine splD ?_ ?_ <;> intro hc <;> first|(exfalso; omega)|skip)
         |refine eL [.slice (some ad2) L.length sc] ⟨⟨rfl, fun w' hw' => e1 w' hw'.1⟩, ?_⟩
         |refine eL [iv x1] ⟨⟨rfl, fun w' hw' => e2 w' hw'.1 0 _ rfl⟩, ?_⟩
         |refine eL [iv x2] ⟨⟨rfl, fun w' hw' => e2 w' hw'.1 1 _ rfl⟩, ?_⟩
         |refine eL [iv x3] ⟨⟨rfl, fun w' hw' => e2 w' hw'.1 2 _ rfl⟩, ?_⟩
       all_goals exact ⟨k + 1, by omega, by omega, Ent.ren (rho [(2, 5), (3, 6)]) rfl (by rw [ht]; rfl) ⟨rfl, rfl, rfl, by rw [ht]; simp [oSV]; rfl, rfl, trivial⟩ (by rw [ht]; exact ⟨rfl, by simp [oM]; rfl, trivial⟩) fun _ h => h⟩
   · rw [List.take_of_length_le hkl3]
     cases L with
     | nil =>
      cases D with
      | nil =>
       repeat'
        conv => whnf
        first
         |refine zB ?_|refine zF ?_|refine zG ?_|refine zI ?_|refine splF ?_
         |refine eL [.slice so ([] : List Ln).length sc] ⟨⟨rfl, fun w' hw' => e1 w' hw'.1⟩, ?_⟩
       exact Dis.ent (x := [(⟨none, 0, []⟩ : Lr)]) ⟨⟨by have := hl2 (none, 0); simp only [List.nil_append] at this; omega, hnew (none, 0)⟩, by have := hl2 (none, 0); simp only [List.nil_append] at this; omega⟩ (Ent.ren (rho [(0, 5), (1, 6)]) rfl rfl ⟨rfl, rfl, by rw [← hn]; rfl, trivial⟩ ⟨rfl, trivial⟩ (fun w' h => hh0 none 0 rfl w' h ⟨rfl, rfl⟩))
      | cons a D =>
       simp only [List.length_cons] at hn
       repeat'
        conv => whnf
        first
         |refine zB ?_|refine zF ?_|refine zG ?_|refine zH ?_|refine zI ?_|refine splF ?_
         |refine eL [.slice so ([] : List Ln).length sc] ⟨⟨rfl, fun w' hw' => e1 w' hw'.1⟩, ?_⟩
       have hl3 : (a :: D ++ [(⟨none, 0, []⟩ : Lr)]).length = n + 1 := hl2 (none, 0)
       exact Dis.ent (x := a :: D ++ [(⟨none, 0, []⟩ : Lr)]) ⟨⟨by omega, hnew (none, 0)⟩, by omega⟩ (Ent.ren (rho [(0, 5), (1, 6)]) rfl rfl ⟨rfl, by simp [oSV]; rfl, by rw [← hn]; simp; rfl, trivial⟩ ⟨by simp [oM]; rfl, trivial⟩ (fun w' h => hh0 none 0 rfl w' h ⟨rfl, rfl⟩))
     | cons x L =>
      cases D with
      | nil =>
       repeat'
        conv => whnf
        first
         |refine zB ?_|refine zF ?_|refine zG ?_
         |(refine splD ?_ ?_ <;> intro hc <;> first|(exfalso; omega)|skip)
         |refine eL [.slice so (x :: L).length sc] ⟨⟨rfl, fun w' hw' => e1 w' hw'.1⟩, ?_⟩
         |refine appG env 4 1 1 [.os 2 3 (L.length + 1)] 64 0 [] [] rfl rfl rfl rfl rfl (by decide) rfl rfl rfl (fun _ => Nat.le_refl _) (by omega) (by decide) rfl (.inl ⟨rfl, rfl, rfl, rfl⟩) rfl ?_
       refine Dis.mk3 (w0 := w) (rho [(0, 5), (1, 6)]) [2] rfl (fun i hi => by rw [List.mem_singleton] at hi; subst hi; exact ⟨_, rfl, rfl⟩) (fun w' h => h.1) (fun β w1 hok hw1 hge => ⟨[(⟨some ⟨β 2, 0, none⟩, β 3, x :: L⟩ : Lr)], ⟨⟨by have := hl2 (none, 0); simp only [List.nil_append, List.length_singleton] at this ⊢; omega, hnew (some ⟨β 2, 0, none⟩, β 3)⟩, by have := hl2 (none, 0); simp only [List.nil_append, List.length_singleton] at this ⊢; omega⟩, ⟨⟨_, rfl, rfl⟩, ⟨_, rfl, rfl⟩, ⟨_, rfl, by rw [← hn]; rfl⟩, trivial⟩, ⟨⟨rfl, _, rfl, fun _ => rfl, fun w2 y hy => hy⟩, trivial⟩, rfl, fun w2 hw2 hLo => hh1 (β 2) (β 3) w2 (by simp) (hge 2 _ rfl rfl) hw2 (hLo 2 (by simp) _ rfl)⟩)
      | cons a D =>
       simp only [List.length_cons] at hn
       repeat'
        conv => whnf
        first
         |refine zB ?_|refine zF ?_|refine zG ?_
         |(refine splD ?_ ?_ <;> intro hc <;> first|(exfalso; omega)|skip)
         |refine eL [.slice so (x :: L).length sc] ⟨⟨rfl, fun w' hw' => e1 w' hw'.1⟩, ?_⟩
         |refine appG env 4 1 1 [.os 2 3 (L.length + 1)] 64 (D.length + 1) ((a :: D).flatMap Lr.cs) [0] rfl rfl rfl rfl rfl (by decide) rfl rfl rfl (fun h => by cases h) (by omega) (by show (D.length + 1 + 1) * 24 ≤ 140737488355328; omega) rfl (.inr ⟨0, 1, rfl, rfl, rfl, (by show 0 < 5; decide)⟩) rfl ?_
       have hl3 : ∀ y : Option Addr × Nat, (a :: D ++ [(⟨y.1, y.2, x :: L⟩ : Lr)]).length = D.length + 1 + 1 := fun y => by rw [hl2]; omega
       refine Dis.mk3 (w0 := w) (rho [(0, 5), (1, 6)]) [2] rfl (fun i hi => by rw [List.mem_singleton] at hi; subst hi; exact ⟨_, rfl, rfl⟩) (fun w' h => h.1) (fun β w1 hok hw1 hge => ⟨a :: D ++ [(⟨some ⟨β 2, 0, none⟩, β 3, x :: L⟩ : Lr)], ⟨⟨by have := hl3 (some ⟨β 2, 0, none⟩, β 3); dsimp only at this; omega, hnew (some ⟨β 2, 0, none⟩, β 3)⟩, by have := hl3 (some ⟨β 2, 0, none⟩, β 3); dsimp only at this; omega⟩, ⟨⟨_, rfl, rfl⟩, ⟨_, rfl, by simp [oSV]; rfl⟩, ⟨_, rfl, by rw [hl3 (some ⟨β 2, 0, none⟩, β 3), ← hn]; rfl⟩, trivial⟩, by simp [oM]; exact ⟨⟨rfl, _, rfl, fun _ => rfl, fun w2 y hy => by simp [Blk.ok] at hy ⊢; exact hy⟩, trivial⟩, rfl, fun w2 hw2 hLo => hh1 (β 2) (β 3) w2 (by simp) (hge 2 _ rfl rfl) hw2 (hLo 2 (by simp) _ rfl)⟩)
 · have hk2 : D.length = S.length := by omega
   rw [hk2, List.take_of_length_le (Nat.le_of_eq (List.length_map ..))] at hmap
   cases D with
   | nil =>
    repeat'
     conv => whnf
     first
      |(refine splD ?_ ?_ <;> intro hc <;> first|(exfalso; omega)|skip)
    exact ⟨fun w' h => h.1, fun β w' hB hblk => ⟨⟨none, 0, [], hmap, fun r hr => by cases hr⟩, rfl, fun w2 k2 => ⟨.inl ⟨rfl, rfl⟩, fun r hr => by cases hr⟩⟩⟩
   | cons a L =>
    repeat'
     conv => whnf
     first
      |(refine splD ?_ ?_ <;> intro hc <;> first|(exfalso; omega)|skip)
    refine ⟨fun w' h => h.1, fun β w' hB hblk => ?_⟩
    obtain ⟨y, h1, h2⟩ := oEnd (sz := 1) (f := Lr.cs) (fun _ => rfl) a L (hblk 0 _ rfl rfl)
    exact ⟨⟨y.1, y.2, a :: L, hmap, fun r hr => (hB.2 r hr).2⟩, h1, fun w2 k2 => ⟨h2 w2 k2, fun r hr => (hB.2 r hr).1 w2 k2⟩⟩
def fsN (f : Nat → Bool) : Nat → Nat → Nat
 | 0, k => k
 | n + 1, k => if f k then k else fsN f n (k + 1)
theorem fsN_spec {f : Nat → Bool} : ∀ (n k : Nat), k ≤ fsN f n k ∧ fsN f n k ≤ k + n ∧ (∀ i, k ≤ i → i < fsN f n k → f i = false) ∧ (fsN f n k < k + n → f (fsN f n k) = true)
 | 0, k => ⟨Nat.le_refl _, Nat.le_refl _, fun i h1 h2 => by simp only [fsN] at h2; omega, fun h => by simp only [fsN] at h; omega⟩
 | n + 1, k => by
  rw [fsN]
  split
  · rename_i hp
    exact ⟨Nat.le_refl _, by omega, fun i h1 h2 => by omega, fun _ => hp⟩
  · rename_i hp
    obtain ⟨h1, h2, h3, h4⟩ := fsN_spec (f := f) n (k + 1)
    refine ⟨by omega, by omega, fun i q1 q2 => ?_, fun h => h4 (by omega)⟩
    by_cases hi : i = k
    · subst hi; simpa using hp
    · exact h3 i (by omega) q2
theorem fsN_hit {f : Nat → Bool} {n k : Nat} (h : ∀ i, i < k → f i = false) (hk : f k = true) (hn : k < n) : fsN f n 0 = k := by
 obtain ⟨_, h2, h3, h4⟩ := fsN_spec (f := f) n 0
 rcases Nat.lt_trichotomy (fsN f n 0) k with c | c | c
 · have q1 := h4 (by omega)
   have q2 := h _ c
   rw [q1] at q2; cases q2
 · exact c
 · have := h3 k (by omega) c
   rw [hk] at this; cases this
theorem fsN_none {f : Nat → Bool} {n : Nat} (h : ∀ i, i < n → f i = false) : fsN f n 0 = n := by
 obtain ⟨_, h2, h3, h4⟩ := fsN_spec (f := f) n 0
 rcases Nat.lt_or_ge (fsN f n 0) n with c | c
 · have := h _ c
   rw [h4 (by omega)] at this; cases this
 · omega
def ixN (f : Nat → Bool) (n : Nat) : Int := if fsN f n 0 < n then (fsN f n 0 : Int) else -1
theorem ixN_hit {f : Nat → Bool} {n k : Nat} (h : ∀ i, i < k → f i = false) (hk : f k = true) (hn : k < n) : ixN f n = k := by unfold ixN; rw [fsN_hit h hk hn, if_pos hn]
theorem ixN_none {f : Nat → Bool} {n : Nat} (h : ∀ i, i < n → f i = false) : ixN f n = -1 := by unfold ixN; rw [fsN_none h, if_neg (by omega)]
theorem lt_succ_of {f : Nat → Bool} {k : Nat} (h : ∀ i, i < k → f i = false) (hk : f k = false) : ∀ i, i < k + 1 → f i = false := fun i hi => by
 by_cases e : i = k
 · subst e; exact hk
 · exact h i (by omega)
def eqL (l : List Int) (x : Int) (i : Nat) : Bool := l.getD i 0 == x
theorem Index_ok (l : List Int) (o : Option Addr) (c : Nat) (x : Int) (w : World) (hrd : Rd 1 iF (.slice o l.length c) l w) (hl : l.length ≤ 1000000) :
 Calls Tryz.prog 44 #[.slice o l.length c, iv x] w fun e w' => e = .returned (iv (ixN (eqL l x) l.length)) ∧ Below w.heap.size w w' := by
 refine calls_val env mixed Tryz.func44 has44 Tryz.ntmps44 [.slice o l.length c, iv x] (by simp) ?_
 skip
 refine loopE (fun k : Nat => [(0, .v (.slice o l.length c)), (1, .v (iv x)), (7, .v (iv l.length)), (8, .v (iv k))]) (fun _ => []) (fun k => k ≤ l.length ∧ ∀ i, i < k → eqL l x i = false) (fun k => l.length - k) 0 ⟨Nat.zero_le _, fun i h => absurd h (by omega)⟩ ⟨rfl, rfl, rfl, rfl, trivial⟩ trivial (fun _ => ⟨rfl, rfl⟩) ?_
 intro k ⟨hk, hall⟩
 rcases Nat.lt_or_ge k l.length with hkl | hkl
 · obtain ⟨y, hy⟩ : ∃ b, l[k]? = some b := ⟨_, List.getElem?_eq_getElem hkl⟩
   obtain ⟨_, ad, rfl, _⟩ := hrd.ptr (by omega)
   have e0 := fun (w' : World) hw' => rd_ati (hrd.below (w' := w') hw') hy
   have he : eqL l x k = (y == x) := by unfold eqL; rw [getD_at hy]
   by_cases hyx : x = y
   · rw [ixN_hit hall (by rw [he, hyx]; simp) hkl]
     repeat'
      conv => whnf
      first
       |refine zG ?_
       |(refine splD ?_ ?_ <;> intro hc <;> first|(exfalso; omega)|skip)
       |refine eL [iv y] ⟨⟨rfl, fun w' hw' => e0 w' hw'⟩, ?_⟩
     all_goals exact ⟨fun β => rfl, fun w' h => h⟩
   · have hf : eqL l x k = false := by rw [he]; simp; omega
     repeat'
      conv => whnf
      first
       |refine zF ?_|refine zG ?_
       |(refine splD ?_ ?_ <;> intro hc <;> first|(exfalso; omega)|skip)
       |refine eL [iv y] ⟨⟨rfl, fun w' hw' => e0 w' hw'⟩, ?_⟩
     all_goals exact ⟨k + 1, ⟨by omega, lt_succ_of hall hf⟩, by omega, Ent.weak rfl ⟨rfl, rfl, rfl, rfl, trivial⟩ trivial fun _ h => h⟩
 · rw [ixN_none fun i hi => hall i (by omega)]
   repeat'
    conv => whnf
    first
     |(refine splD ?_ ?_ <;> intro hc <;> first|(exfalso; omega)|skip)
   all_goals exact ⟨fun β => rfl, fun w' h => h⟩
theorem ixN_contains (l : List Int) (x : Int) : decide (ixN (eqL l x) l.length ≥ 0) = l.contains x := by
 rw [Bool.eq_iff_iff, decide_eq_true_eq, List.contains_iff_mem]
 constructor
 · intro h
   obtain ⟨_, h2, h3, h4⟩ := fsN_spec (f := eqL l x) l.length 0
   unfold ixN at h
   split at h
   · rename_i hlt
     have := h4 (by omega)
     generalize fsN (eqL l x) l.length 0 = I at *
     unfold eqL at this
     rw [List.getD_eq_getElem?_getD, List.getElem?_eq_getElem hlt] at this
     have he : l[I] = x := by simpa using this
     rw [← he]; exact List.getElem_mem _
   · omega
 · intro h
   obtain ⟨i, hi, rfl⟩ := List.getElem_of_mem h
   unfold ixN
   split
   · omega
   · rename_i hlt
     obtain ⟨_, h2, h3, h4⟩ := fsN_spec (f := eqL l l[i]) l.length 0
     have := h3 i (by omega) (by omega)
     unfold eqL at this
     rw [List.getD_eq_getElem?_getD, List.getElem?_eq_getElem hi] at this
     simp at this
theorem Contains_ok (l : List Int) (o : Option Addr) (c : Nat) (x : Int) (w : World) (hrd : Rd 1 iF (.slice o l.length c) l w) (hl : l.length ≤ 1000000) :
 Calls Tryz.prog 127 #[.slice o l.length c, iv x] w fun e w' => e = .returned (.bool (l.contains x)) ∧ Below w.heap.size w w' := by
 have c44 := fun (w' : World) (hb : Below w.heap.size w w') => Index_ok l o c x w' (hrd.below hb) hl
 rw [← ixN_contains]
 generalize ixN (eqL l x) l.length = z at *
 refine calls_val env mixed Tryz.func127 has127 Tryz.ntmps127 [.slice o l.length c, iv x] (by simp) ?_
 repeat'
  conv => whnf
  first
   |refine zD ?_
   |((with_reducible show CallEv _ _ 44 ..); refine callE (fun β w' hbw => c44 _ hbw) ?_)
 all_goals exact ⟨fun β => rfl, fun w' h => h⟩
def lesB (s : SD) (x : Ln) : Bool := inB x.g 0 (s.G.length - 1) && (inB x.j 0 (s.su - 1) && (inB x.t 0 (s.T.length - 1) && ((s.T.getD x.t.toNat ([], 0)).1.contains x.j)))
theorem lesson_ok (s : Sc) (x : Ln) (w : World) (h : ScIn s w) (hB : ScB s) (hs : -1000000 ≤ s.su ∧ s.su ≤ 1000000) : Calls Tryz.prog 101 #[s.v, .agg #[iv x.g, iv x.j, iv x.t]] w fun e w' => e = .returned (.bool (lesB s.d x)) ∧ Below w.heap.size w w' := by
 obtain ⟨sl, ro, su, go, gc, G, to, tc, T⟩ := s
 obtain ⟨g, j, t⟩ := x
 obtain ⟨hg, hr, ht, hh⟩ := h
 obtain ⟨b1, b2, b3, b4⟩ := hB
 unfold lesB Sc.d
 dsimp only at hg hr ht hh b1 b2 b3 b4 hs ⊢
 rw [List.length_map, List.length_map]
 refine calls_val env mixed Tryz.func101 has101 Tryz.ntmps101 [.agg #[iv sl, iv ro, iv su, .slice go G.length gc, .slice to T.length tc], .agg #[iv g, iv j, iv t]] (by simp) ?_
 have c1 := fun w' => within_ok g 0 (G.length - 1) w'
 have c2 := fun w' => within_ok j 0 (su - 1) w'
 have c3 := fun w' => within_ok t 0 (T.length - 1) w'
 by_cases hin : 0 ≤ t ∧ t ≤ (T.length : Int) - 1
 · obtain ⟨k, rfl⟩ := Int.eq_ofNat_of_zero_le hin.1
   obtain ⟨⟨ro', rc, xs, hh'⟩, hx⟩ : ∃ b, T[k]? = some b := ⟨_, List.getElem?_eq_getElem (by omega)⟩
   obtain ⟨_, ad, rfl, _⟩ := ht.ptr (by omega)
   have hrr := hh _ (List.mem_of_getElem? hx)
   have hrb := b4 _ (List.mem_of_getElem? hx)
   dsimp only at hrr hrb
   have e0 := fun (w' : World) hw' => rd_fld (ht.below (w' := w') hw') hx
   have c127 := fun (w' : World) (hb : Below w.heap.size w w') => Contains_ok xs ro' rc j w' (hrr.below hb) hrb
   have hget : ((T.map Tc.d).getD (k : Int).toNat ([], 0)).1 = xs := by
    rw [Int.toNat_natCast, List.getD_eq_getElem?_getD, List.getElem?_map, hx]; rfl
   rw [hget]
   generalize xs.contains j = q4 at *
   rw [inB_iff.2 hin] at c3 ⊢
   cases q1 : inB g 0 (G.length - 1) <;> cases q2 : inB j 0 (su - 1) <;> cases q4
   all_goals rw [q1] at c1
   all_goals rw [q2] at c2
   all_goals skip
   repeat'
    conv => whnf
    first
     |refine zA ?_|refine zB ?_|refine zD ?_|refine zF ?_|refine zG ?_|refine splT ?_|refine splF ?_
     |((with_reducible show CallEv _ _ 61 [.v (iv g), _, _] _ _ _ _); refine callE (k := 61) (fun β w' hbw => c1 _) ?_)
     |((with_reducible show CallEv _ _ 61 [.v (iv j), _, _] _ _ _ _); refine callE (k := 61) (fun β w' hbw => c2 _) ?_)
     |((with_reducible show CallEv _ _ 61 [.v (iv k), _, _] _ _ _ _); refine callE (k := 61) (fun β w' hbw => c3 _) ?_)
     |refine eL [.slice ro' xs.length rc] ⟨⟨rfl, fun w' hw' => e0 w' hw' 0 _ rfl⟩, ?_⟩
     |((with_reducible show CallEv _ _ 127 ..); refine callE (fun β w' hbw => c127 _ hbw) ?_)
   all_goals exact ⟨fun β => rfl, fun w' h => h⟩
 · have q3 : inB t 0 ((T.length : Int) - 1) = false := by
    rw [Bool.eq_false_iff]; intro hc; exact hin (inB_iff.1 hc)
   rw [q3] at c3 ⊢
   cases q1 : inB g 0 (G.length - 1) <;> cases q2 : inB j 0 (su - 1)
   all_goals rw [q1] at c1
   all_goals rw [q2] at c2
   all_goals skip
   repeat'
    conv => whnf
    first
     |refine zA ?_|refine zB ?_|refine zD ?_|refine zF ?_|refine splT ?_|refine splF ?_
     |((with_reducible show CallEv _ _ 61 [.v (iv g), _, _] _ _ _ _); refine callE (k := 61) (fun β w' hbw => c1 _) ?_)
     |((with_reducible show CallEv _ _ 61 [.v (iv j), _, _] _ _ _ _); refine callE (k := 61) (fun β w' hbw => c2 _) ?_)
     |((with_reducible show CallEv _ _ 61 [.v (iv t), _, _] _ _ _ _); refine callE (k := 61) (fun β w' hbw => c3 _) ?_)
   all_goals exact ⟨fun β => rfl, fun w' h => h⟩
def cfB (x y : Ln) : Bool := x.g == y.g || x.t == y.t
def lnAt (l : List Ln) (i : Nat) : Ln := l.getD i ⟨0, 0, 0⟩
theorem lnAt_at {l : List Ln} {i : Nat} {x : Ln} (h : l[i]? = some x) : lnAt l i = x := by unfold lnAt; rw [List.getD_eq_getElem?_getD, h]; rfl
def dsB (l : List Ln) (i : Nat) : Bool := alN (fun k => !cfB (lnAt l i) (lnAt l k)) i
def sltB (s : SD) (l : List Ln) : Bool := decide ((l.length : Int) ≤ s.ro) && (l.all (lesB s) && alN (dsB l) l.length)
theorem conf_ok (x y : Ln) (b : Nat) (w : World) (hb : w.heap[b]? = some (.cells x.cs.toArray 46 (0, 0))) : Calls Tryz.prog 99 #[.agg #[iv y.g, iv y.j, iv y.t], .pointer (some ⟨b, 0, none⟩)] w fun e w' => e = .returned (.bool (cfB x y)) ∧ Below w.heap.size w w' := by
 obtain ⟨xg, xj, xt⟩ := x
 obtain ⟨yg, yj, yt⟩ := y
 have e0 := fun (w' : World) (hw : Below w.heap.size w w') => cell_at (C := [iv xg, iv xj, iv xt]) (heap_below hb hw) (o := 0) (v := iv xg) rfl
 have e2 := fun (w' : World) (hw : Below w.heap.size w w') => cell_at (C := [iv xg, iv xj, iv xt]) (heap_below hb hw) (o := 2) (v := iv xt) rfl
 refine calls_val env mixed Tryz.func99 has99 Tryz.ntmps99 [.agg #[iv yg, iv yj, iv yt], .pointer (some ⟨b, 0, none⟩)] (by simp) ?_
 unfold cfB
 dsimp only
 repeat'
  conv => whnf
  first
   |refine zB ?_
   |refine splD (fun hc => ?_) (fun hc => ?_)
   |refine eL [iv xg] ⟨⟨rfl, fun w' hw' => e0 w' hw'⟩, ?_⟩
   |refine eL [iv xt] ⟨⟨rfl, fun w' hw' => e2 w' hw'⟩, ?_⟩
 all_goals exact ⟨fun β => congrArg Value.bool (by simp [*]), fun w' h => h⟩
theorem anyC_ok (x : Ln) (b : Nat) (L : List Ln) (o : Option Addr) (n c : Nat) (w : World) (hn : n = L.length) (hb : w.heap[b]? = some (.cells x.cs.toArray 46 (0, 0))) (hrd : Rd 3 Ln.cs (.slice o L.length c) L w) (hl : L.length ≤ 1000000) :
 Calls Tryz.prog 98 #[.slice o n c, .func (.func 99) #[] #[.pointer (some ⟨b, 0, none⟩)]] w fun e w' => e = .returned (.bool (!alN (fun k => !cfB x (lnAt L k)) L.length)) ∧ Below w.heap.size w w' := by
 subst hn
 refine calls_val env mixed Tryz.func98 has98 Tryz.ntmps98 [.slice o L.length c, .func (.func 99) #[] #[.pointer (some ⟨b, 0, none⟩)]] (by simp) ?_
 repeat'
  conv => whnf
  first
   |refine zD ?_
   |((with_reducible show CallEv _ _ 133 ..); refine callI env mixed 1000 [] Tryz.func133 has133 Tryz.ntmps133 (Nat.le_of_ble_eq_true rfl) rfl rfl rfl ?_)
 refine loopE (fun k : Nat => [(0, .v (.slice o L.length c)), (1, .v (.func (.func 99) #[] #[.pointer (some ⟨b, 0, none⟩)])), (7, .v (iv L.length)), (8, .v (iv k))]) (fun _ => []) (fun k => k ≤ L.length ∧ alN (fun k => !cfB x (lnAt L k)) k = true) (fun k => L.length - k) 0 ⟨Nat.zero_le _, rfl⟩ ⟨rfl, rfl, rfl, rfl, trivial⟩ trivial (fun _ => ⟨rfl, rfl⟩) ?_
 intro k ⟨hk, hall⟩
 rcases Nat.lt_or_ge k L.length with hkl | hkl
 · obtain ⟨y, hy⟩ : ∃ b, L[k]? = some b := ⟨_, List.getElem?_eq_getElem hkl⟩
   obtain ⟨_, ad, rfl, _⟩ := hrd.ptr (by omega)
   have e0 := fun (w' : World) hw' => rd_ati (hrd.below (w' := w') hw') hy
   have c99 := fun (w' : World) (hw : Below w.heap.size w w') => conf_ok x y b w' (heap_below hb hw)
   have ha := lnAt_at hy
   obtain ⟨yg, yj, yt⟩ := y
   dsimp only at c99
   cases hc : cfB x ⟨yg, yj, yt⟩ with
   | true =>
    rw [hc] at c99
    rw [alN_no hkl (by rw [ha, hc]; rfl)]
    repeat'
     conv => whnf
     first
      |refine zD ?_|refine zG ?_|refine splT ?_
      |(refine splD ?_ ?_ <;> intro hc <;> first|(exfalso; omega)|skip)
      |refine eL [iv yg, iv yj, iv yt] ⟨⟨rfl, fun w' hw' => e0 w' hw'⟩, ?_⟩
      |((with_reducible show CallEv _ _ 99 ..); refine callE (fun β w' hbw => c99 _ hbw) ?_)
    all_goals exact ⟨fun β => rfl, fun w' h => h⟩
   | false =>
    rw [hc] at c99
    have hnx : alN (fun k => !cfB x (lnAt L k)) (k + 1) = true := by rw [alN, hall, ha, hc]; rfl
    repeat'
     conv => whnf
     first
      |refine zD ?_|refine zF ?_|refine zG ?_|refine splF ?_
      |(refine splD ?_ ?_ <;> intro hc <;> first|(exfalso; omega)|skip)
      |refine eL [iv yg, iv yj, iv yt] ⟨⟨rfl, fun w' hw' => e0 w' hw'⟩, ?_⟩
      |((with_reducible show CallEv _ _ 99 ..); refine callE (fun β w' hbw => c99 _ hbw) ?_)
    all_goals exact ⟨k + 1, ⟨by omega, hnx⟩, by omega, Ent.weak rfl ⟨rfl, rfl, rfl, rfl, trivial⟩ trivial fun _ h => h⟩
 · obtain rfl : k = L.length := by omega
   rw [hall]
   repeat'
    conv => whnf
    first
     |(refine splD ?_ ?_ <;> intro hc <;> first|(exfalso; omega)|skip)
   all_goals exact ⟨fun β => rfl, fun w' h => h⟩
theorem allL_ok (s : Sc) (L : List Ln) (o : Option Addr) (c : Nat) (w : World) (h : ScIn s w) (hB : ScB s) (hs : -1000000 ≤ s.su ∧ s.su ≤ 1000000) (hrd : Rd 3 Ln.cs (.slice o L.length c) L w) (hl : L.length ≤ 1000000) :
 Calls Tryz.prog 100 #[.slice o L.length c, .func (.func 101) #[s.v] #[]] w fun e w' => e = .returned (.bool (L.all (lesB s.d))) ∧ Below w.heap.size w w' := by
 refine calls_val env mixed Tryz.func100 has100 Tryz.ntmps100 [.slice o L.length c, .func (.func 101) #[s.v] #[]] (by simp) ?_
 repeat'
  conv => whnf
  first
   |refine zD ?_
   |((with_reducible show CallEv _ _ 98 ..); refine callI env mixed 1000 [] Tryz.func98 has98 Tryz.ntmps98 (Nat.le_of_ble_eq_true rfl) rfl rfl rfl ?_)
   |((with_reducible show CallEv _ _ 133 ..); refine callI env mixed 2000 [] Tryz.func133 has133 Tryz.ntmps133 (Nat.le_of_ble_eq_true rfl) rfl rfl rfl ?_)
 refine loopE (fun k : Nat => [(0, .v (.slice o L.length c)), (1, .fn (.func 134) [.ptr 0 0]), (7, .v (iv L.length)), (8, .v (iv k))]) (fun _ => [(0, .cells [.v (.func (.func 101) #[s.v] #[])] 156)]) (fun k => k ≤ L.length ∧ (L.take k).all (lesB s.d) = true) (fun k => L.length - k) 0 ⟨Nat.zero_le _, rfl⟩ ⟨rfl, rfl, rfl, rfl, trivial⟩ ⟨rfl, trivial⟩ (fun _ => ⟨rfl, rfl⟩) ?_
 intro k ⟨hk, hall⟩
 rcases Nat.lt_or_ge k L.length with hkl | hkl
 · obtain ⟨y, hy⟩ : ∃ b, L[k]? = some b := ⟨_, List.getElem?_eq_getElem hkl⟩
   obtain ⟨_, ad, rfl, _⟩ := hrd.ptr (by omega)
   have e0 := fun (w' : World) hw' => rd_ati (hrd.below (w' := w') hw') hy
   have c101 := fun (w' : World) (hw : Below w.heap.size w w') => lesson_ok s y w' (h.below hw) hB hs
   have ht := all_take (p := lesB s.d) hy
   rw [hall, Bool.true_and] at ht
   have hno := all_no (p := lesB s.d) hy
   obtain ⟨yg, yj, yt⟩ := y
   dsimp only at c101
   cases hc : lesB s.d ⟨yg, yj, yt⟩ with
   | true =>
    rw [hc] at c101 ht
    repeat'
     conv => whnf
     first
      |refine zB ?_|refine zD ?_|refine zF ?_|refine zG ?_|refine splF ?_
      |(refine splD ?_ ?_ <;> intro hc <;> first|(exfalso; omega)|skip)
      |refine eL [iv yg, iv yj, iv yt] ⟨⟨rfl, fun w' hw' => e0 w' hw'⟩, ?_⟩
      |((with_reducible show CallEv _ _ 134 ..); refine callI env mixed 3000 [0,1,5,7,8] Tryz.func134 has134 Tryz.ntmps134 (Nat.le_of_ble_eq_true rfl) rfl rfl rfl ?_)
      |((with_reducible show CallEv _ _ 101 ..); refine callE (fun β w' hbw => c101 _ hbw) ?_)
    all_goals exact ⟨k + 1, ⟨by omega, ht⟩, by omega, Ent.weak rfl ⟨rfl, rfl, rfl, rfl, trivial⟩ ⟨rfl, trivial⟩ fun _ h => h⟩
   | false =>
    rw [hc] at c101
    rw [hno hc]
    repeat'
     conv => whnf
     first
      |refine zB ?_|refine zD ?_|refine zG ?_|refine splT ?_
      |(refine splD ?_ ?_ <;> intro hc <;> first|(exfalso; omega)|skip)
      |refine eL [iv yg, iv yj, iv yt] ⟨⟨rfl, fun w' hw' => e0 w' hw'⟩, ?_⟩
      |((with_reducible show CallEv _ _ 134 ..); refine callI env mixed 3000 [0,1,5,7,8] Tryz.func134 has134 Tryz.ntmps134 (Nat.le_of_ble_eq_true rfl) rfl rfl rfl ?_)
      |((with_reducible show CallEv _ _ 101 ..); refine callE (fun β w' hbw => c101 _ hbw) ?_)
    all_goals exact ⟨fun β => rfl, fun w' h => h⟩
 · rw [List.take_of_length_le hkl] at hall
   rw [hall]
   repeat'
    conv => whnf
    first
     |(refine splD ?_ ?_ <;> intro hc <;> first|(exfalso; omega)|skip)
   all_goals exact ⟨fun β => rfl, fun w' h => h⟩
theorem sum_tk {α : Type} {f : α → Int} {X : List α} {k : Nat} {x : α} (h : X[k]? = some x) : ((X.take (k + 1)).map f).sum = ((X.take k).map f).sum + f x := by
 rw [List.take_add_one, h]; simp
theorem sum_b {α : Type} {f : α → Int} {M : Nat} : ∀ (X : List α), (∀ x ∈ X, 0 ≤ f x ∧ f x ≤ M) → 0 ≤ (X.map f).sum ∧ (X.map f).sum ≤ M * X.length
 | [], _ => by simp
 | x :: X, h => by
  have h1 := h x (by simp)
  have h2 := sum_b X fun y hy => h y (by simp [hy])
  simp only [List.map_cons, List.sum_cons, List.length_cons, Int.natCast_add, Int.mul_add]
  omega
theorem sum_bt {α : Type} {f : α → Int} {M : Nat} {X : List α} (h : ∀ x ∈ X, 0 ≤ f x ∧ f x ≤ M) (k : Nat) : 0 ≤ ((X.take k).map f).sum ∧ ((X.take k).map f).sum ≤ M * X.length := by
 have h1 := sum_b (X.take k) fun x hx => h x (List.mem_of_mem_take hx)
 have h2 : (X.take k).length ≤ X.length := List.length_take_le' _ _
 have h3 : (M : Int) * (X.take k).length ≤ M * X.length := Int.mul_le_mul_of_nonneg_left (by omega) (by omega)
 omega
theorem sum92_ok (L : List Int) (o : Option Addr) (c : Nat) (w : World) (hrd : Rd 1 iF (.slice o L.length c) L w) (hl : L.length ≤ 1000000) (hb : ∀ x ∈ L, 0 ≤ x ∧ x ≤ (1000 : Nat)) :
 Calls Tryz.prog 92 #[.slice o L.length c] w fun e w' => e = .returned (iv (L.map id).sum) ∧ Below w.heap.size w w' := by
 refine calls_val env mixed Tryz.func92 has92 Tryz.ntmps92 [.slice o L.length c] (by simp) ?_
 skip
 refine loopE (fun k : Nat => [(2, .v (iv ((L.take k).map id).sum)), (5, .v (.slice o L.length c)), (6, .v (iv L.length)), (7, .v (iv k))]) (fun _ => []) (fun k => k ≤ L.length) (fun k => L.length - k) 0 (Nat.zero_le _) ⟨rfl, rfl, rfl, rfl, trivial⟩ trivial (fun _ => ⟨rfl, rfl⟩) ?_
 intro k hk
 rcases Nat.lt_or_ge k L.length with hkl | hkl
 · obtain ⟨y, hy⟩ : ∃ b, L[k]? = some b := ⟨_, List.getElem?_eq_getElem hkl⟩
   obtain ⟨_, ad, rfl, _⟩ := hrd.ptr (by omega)
   have e0 := fun (w' : World) hw' => rd_ati (hrd.below (w' := w') hw') hy
   have h1 := sum_bt (f := id) hb k
   have h2 := hb y (List.mem_of_getElem? hy)
   have h3 := sum_tk (f := id) hy
   simp only [id] at h3
   generalize ((L.take k).map id).sum = S at *
   repeat'
    conv => whnf
    first
     |refine zF ?_|refine zG ?_
     |(refine splD ?_ ?_ <;> intro hc <;> first|(exfalso; omega)|skip)
     |refine eL [iv y] ⟨⟨rfl, fun w' hw' => e0 w' hw'⟩, ?_⟩
   all_goals exact ⟨k + 1, by omega, by omega, Ent.weak rfl ⟨by rw [h3]; rfl, rfl, rfl, rfl, trivial⟩ trivial fun _ h => h⟩
 · obtain rfl : k = L.length := by omega
   rw [List.take_length]
   repeat'
    conv => whnf
    first
     |(refine splD ?_ ?_ <;> intro hc <;> first|(exfalso; omega)|skip)
   all_goals exact ⟨fun β => rfl, fun w' h => h⟩
def rowH (l : List Int) (g : List Int) : Int := (l.map fun j => g.getD j.toNat 0).sum
def hoursP (s : SD) (l : List Int) : Int := (s.G.map (rowH l)).sum
def subIn (s : SD) (l : List Int) : Prop := l.length ≤ 10 ∧ ∀ j ∈ l, 0 ≤ j ∧ j ≤ s.su - 1
theorem grp_at {s : SD} (hv : scOk s = true) {g : List Int} (hg : g ∈ s.G) : (g.length : Int) = s.su ∧ ∀ x ∈ g, 0 ≤ x ∧ x ≤ (20 : Nat) := by
 obtain ⟨hv1, hv2, hv3, hv4, hv5, hv6, hv7⟩ := scOk_iff.1 hv
 have := List.all_eq_true.1 hv6 g hg
 unfold grB evB at this
 simp only [Bool.and_eq_true, decide_eq_true_eq, List.all_eq_true] at this
 exact ⟨this.1, fun x hx => inB_iff.1 (this.2 x hx)⟩
theorem rowH_bd {s : SD} (hv : scOk s = true) {g : List Int} (hg : g ∈ s.G) (l : List Int) (hl : l.length ≤ 10) : 0 ≤ rowH l g ∧ rowH l g ≤ (200 : Nat) := by
 have h := sum_b (f := fun j : Int => g.getD j.toNat 0) (M := 20) l fun j _ => by
  rw [List.getD_eq_getElem?_getD]
  cases hx : g[j.toNat]? with
  | none => simp
  | some x => exact (grp_at hv hg).2 x (List.mem_of_getElem? hx)
 unfold rowH
 omega
theorem hours_ok (s : Sc) (l : List Int) (o : Option Addr) (c : Nat) (w : World) (h : ScIn s w) (hv : scOk s.d = true) (hrd : Rd 1 iF (.slice o l.length c) l w) (hs : subIn s.d l) :
 Calls Tryz.prog 93 #[s.v, .slice o l.length c] w fun e w' => e = .returned (iv (hoursP s.d l)) ∧ Below w.heap.size w w' := by
 have hbd := fun (g : List Int) (hg : g ∈ s.d.G) => rowH_bd hv hg l hs.1
 have hgrp := fun (g : List Int) (hg : g ∈ s.d.G) => grp_at hv hg
 obtain ⟨hv1, hv2, hv3, hv4, hv5, hv6, hv7⟩ := scOk_iff.1 hv
 obtain ⟨hs1, hs2⟩ := hs
 obtain ⟨hg, hr, ht, hh⟩ := h
 obtain ⟨sl, ro, su, go, gc, G, to, tc, T⟩ := s
 unfold hoursP
 dsimp only [Sc.d] at hbd hgrp hs2 hv4 hv3 hg hr ⊢
 rw [List.length_map] at hv4
 refine calls_val env mixed Tryz.func93 has93 Tryz.ntmps93 [.agg #[iv sl, iv ro, iv su, .slice go G.length gc, .slice to T.length tc], .slice o l.length c] (by simp) ?_
 repeat'
  conv => whnf
  first
   |refine zB ?_
 refine loopN 1 (fun k : Nat => [(1, .v (.slice o l.length c)), (4, .v (iv (((G.map Rw.xs).take k).map (rowH l)).sum)), (10, .v (.slice go G.length gc)), (11, .v (iv G.length)), (12, .v (iv k))]) (fun _ => []) (fun k => k ≤ G.length) (fun k => G.length - k) 0 (Nat.zero_le _) ⟨rfl, rfl, rfl, rfl, rfl, trivial⟩ trivial (fun _ _ => ⟨rfl, rfl⟩) ?_
 intro k hk
 have h1 := sum_bt (f := rowH l) hbd k
 rw [List.length_map] at h1
 rcases Nat.lt_or_ge k G.length with hkl | hkl
 · obtain ⟨⟨ro', rc, xs⟩, hx⟩ : ∃ b, G[k]? = some b := ⟨_, List.getElem?_eq_getElem hkl⟩
   obtain ⟨_, ad, rfl, _⟩ := hg.ptr (by omega)
   have e0 := fun (w' : World) hw' => rd_ati (hg.below (w' := w') hw') hx
   have hrr := hr _ (List.mem_of_getElem? hx)
   change Rd 1 iF (.slice ro' xs.length rc) xs w at hrr
   have hmx : (G.map Rw.xs)[k]? = some xs := by rw [List.getElem?_map, hx]; rfl
   have h3 := sum_tk (f := rowH l) hmx
   have hxs := hgrp xs (List.mem_of_getElem? hmx)
   generalize (((G.map Rw.xs).take k).map (rowH l)).sum = S at *
   repeat'
    conv => whnf
    first
     |refine zG ?_
     |(refine splD ?_ ?_ <;> intro hc <;> first|(exfalso; omega)|skip)
     |refine eL [.slice ro' xs.length rc] ⟨⟨rfl, fun w' hw' => e0 w' hw'⟩, ?_⟩
   refine loopN 1 (fun i : Nat => [(1, .v (.slice o l.length c)), (4, .v (iv (S + ((l.take i).map fun j => xs.getD j.toNat 0).sum))), (6, .v (.slice ro' xs.length rc)), (10, .v (.slice (some ad) G.length gc)), (11, .v (iv G.length)), (12, .v (iv k)), (16, .v (.slice o l.length c)), (17, .v (iv l.length)), (18, .v (iv i))]) (fun _ => []) (fun i => i ≤ l.length) (fun i => l.length - i) 0 (Nat.zero_le _) ⟨rfl, by simp; rfl, rfl, rfl, rfl, rfl, rfl, rfl, rfl, trivial⟩ trivial (fun _ _ => ⟨rfl, rfl⟩) ?_
   intro i hi
   rcases Nat.lt_or_ge i l.length with hil | hil
   · obtain ⟨j, hj⟩ : ∃ b, l[i]? = some b := ⟨_, List.getElem?_eq_getElem hil⟩
     obtain ⟨_, ad2, rfl, _⟩ := hrd.ptr (by omega)
     have hjb := hs2 j (List.mem_of_getElem? hj)
     obtain ⟨jn, rfl⟩ := Int.eq_ofNat_of_zero_le hjb.1
     obtain ⟨v, hvx⟩ : ∃ v, xs[jn]? = some v := ⟨_, List.getElem?_eq_getElem (by omega)⟩
     obtain ⟨_, ad3, rfl, _⟩ := hrr.ptr (by omega)
     have e1 := fun (w' : World) hw' => rd_ati (hrd.below (w' := w') hw') hj
     have e2 := fun (w' : World) hw' => rd_ati (hrr.below (w' := w') hw') hvx
     have hvb := hxs.2 v (List.mem_of_getElem? hvx)
     have h4 := sum_tk (f := fun j : Int => xs.getD j.toNat 0) hj
     have hgv : xs.getD (jn : Int).toNat 0 = v := by rw [Int.toNat_natCast, List.getD_eq_getElem?_getD, hvx]; rfl
     rw [hgv] at h4
     have h5 := sum_bt (f := fun j : Int => xs.getD j.toNat 0) (M := 20) (X := l) (fun j _ => by
      rw [List.getD_eq_getElem?_getD]
      cases hx : xs[j.toNat]? with
      | none => simp
      | some x => exact hxs.2 x (List.mem_of_getElem? hx)) i
     generalize ((l.take i).map fun j : Int => xs.getD j.toNat 0).sum = R at *
     repeat'
      conv => whnf
      first
       |refine zF ?_|refine zG ?_
       |(refine splD ?_ ?_ <;> intro hc <;> first|(exfalso; omega)|skip)
       |refine eL [iv jn] ⟨⟨rfl, fun w' hw' => e1 w' hw'⟩, ?_⟩
       |refine eL [iv v] ⟨⟨rfl, fun w' hw' => e2 w' hw'⟩, ?_⟩
     all_goals exact ⟨i + 1, by omega, by omega, Ent.weak rfl ⟨rfl, by rw [h4, ← Int.add_assoc]; rfl, rfl, rfl, rfl, rfl, rfl, rfl, rfl, trivial⟩ trivial fun _ h => h⟩
   · obtain rfl : i = l.length := by omega
     rw [List.take_length]
     have h5 := hbd xs (List.mem_of_getElem? hmx)
     have h6 : (l.map fun j : Int => xs.getD j.toNat 0).sum = rowH l xs := rfl
     rw [h6]
     generalize rowH l xs = R at *
     repeat'
      conv => whnf
      first
       |refine zF ?_
       |(refine splD ?_ ?_ <;> intro hc <;> first|(exfalso; omega)|skip)
     all_goals exact ⟨k + 1, by omega, by omega, Ent.weak rfl ⟨rfl, by rw [h3]; rfl, rfl, rfl, rfl, trivial⟩ trivial fun _ h => h⟩
 · obtain rfl : k = G.length := by omega
   rw [show (G.map Rw.xs).take G.length = G.map Rw.xs from List.take_of_length_le (by simp)]
   repeat'
    conv => whnf
    first
     |(refine splD ?_ ?_ <;> intro hc <;> first|(exfalso; omega)|skip)
   all_goals exact ⟨fun β => rfl, fun w' h => h⟩
theorem Grow_own (n : Nat) (w : World) (hn : 1 ≤ n ∧ n ≤ 1000) : Calls Tryz.prog 102 #[.slice none 0 0, iv n] w fun e w' => ∃ b d, e = .returned (.slice (some ⟨b, 0, none⟩) 0 d) ∧ w.heap.size ≤ b ∧ Below w.heap.size w w' ∧ w'.ownsRow 0 46 3 (.slice (some ⟨b, 0, none⟩) 0 d) 0 [] := by
 refine callsIn_wide.1 (?_ : CallsIn Fence.wide 5 Tryz.prog 102 _ w _)
 refine callsIn_of_wp_marks Tryz.func102 rfl trivial ?_ rfl
 simp only [Tryz.ntmps102, List.size_toArray, List.length_cons, List.length_nil, Nat.reduceAdd, Nat.reduceSub, Array.replicate_succ, Array.replicate_zero, List.push_toArray, List.append_toArray, List.nil_append, List.cons_append]
 have hb : Builtin.nextslicecap n 0 * Tryz.t46.bytes ≤ 281474976710656 := by rw [nextslicecap_zero (by omega)]; exact Nat.le_trans (Nat.mul_le_mul_right 24 hn.2) (by decide)
 have hb2 : n * Tryz.t46.bytes ≤ 281474976710656 := Nat.le_trans (Nat.mul_le_mul_right 24 hn.2) (by decide)
 gi_wp2
 · have h0 : Tryz.f102.results = #[.tmp 4] := by kernel_rfl
   have hc := grownCap_ge w n 0 46
   have hm := grownCap_le_maxLen w n 0 46 (by simp only [maxLen]; omega)
   refine ⟨_, by simp only [results, h0]; simp [Sem.run_bind, Sem.run_map, Sem.run_pure]; rfl, w.heap.size, _, rfl, Nat.le_refl _, ((Below.refl _ w).alloc (Nat.le_refl _) _).drew, ?_⟩
   refine World.ownsRow_made w _ _ (Nat.zero_le _) hm ?_
   simp only [Array.size_append, size_zeroCells, List.size_toArray, List.length_cons, List.length_nil]
   show n * 3 + (grownCap w n 0 46 - n) * 3 = grownCap w n 0 46 * 3
   omega
theorem Grow_zero (w : World) : Calls Tryz.prog 102 #[.slice none 0 0, iv 0] w fun e w' => e = .returned (.slice none 0 0) ∧ Below w.heap.size w w' := by
 refine callsIn_wide.1 (?_ : CallsIn Fence.wide 5 Tryz.prog 102 _ w _)
 refine callsIn_of_wp_marks Tryz.func102 rfl trivial ?_ rfl
 simp only [Tryz.ntmps102, List.size_toArray, List.length_cons, List.length_nil, Nat.reduceAdd, Nat.reduceSub, Array.replicate_succ, Array.replicate_zero, List.push_toArray, List.append_toArray, List.nil_append, List.cons_append]
 gi_wp2
 have h0 : Tryz.f102.results = #[.tmp 4] := by kernel_rfl
 exact ⟨_, by simp only [results, h0]; simp [Sem.run_bind, Sem.run_map, Sem.run_pure], rfl, Below.refl _ w⟩
theorem lenLn : ∀ A : List Ln, (A.flatMap Ln.cs).length = A.length * 3
 | [] => rfl
 | a :: l => by rw [List.flatMap_cons, List.length_append, lenLn l, List.length_cons]; show 3 + l.length * 3 = (l.length + 1) * 3; omega
abbrev flL (S : List Lr) : List Ln := S.flatMap Lr.L
theorem flL_take {S : List Lr} {k : Nat} {r : Lr} (h : S[k]? = some r) : flL (S.take (k + 1)) = flL (S.take k) ++ r.L := by
 rw [List.take_add_one, h]; simp [flL]
theorem flL_le {S : List Lr} {m : Nat} : ∀ {k : Nat}, (∀ r ∈ S, r.L.length ≤ m) → (flL (S.take k)).length ≤ k * m := by
 intro k h
 induction k with
 | zero => simp [flL]
 | succ k ih =>
  rw [List.take_add_one, flL, List.flatMap_append, List.length_append]
  cases hr : S[k]? with
  | none => simp; rw [Nat.add_mul]; have ih : (flL (S.take k)).length ≤ k * m := ih; simp only [flL, List.length_flatMap] at ih; simp only [List.map_take] at ih ⊢; omega
  | some r => simp; have := h r (List.mem_of_getElem? hr); rw [Nat.add_mul]; have ih : (flL (S.take k)).length ≤ k * m := ih; simp only [flL, List.length_flatMap] at ih; simp only [List.map_take] at ih ⊢; omega
theorem Concat_nil (o : Option Addr) (c : Nat) (S : List Lr) (w : World) (h : TbL o c S w) (hl : S.length ≤ 45) (hrl : ∀ r ∈ S, r.L.length ≤ 10) (hz0 : ∀ r ∈ S, r.L = [] → r.o = none ∧ r.c = 0) (h0 : flL S = []) :
 Calls Tryz.prog 69 #[.slice o S.length c] w fun e w' => e = .returned (.slice none 0 0) ∧ Below w.heap.size w w' := by
 obtain ⟨hrd, hR⟩ := h
 have hz : ∀ r ∈ S, r.L = [] := fun r hr => by
  have := List.flatMap_eq_nil_iff.1 h0
  exact this r hr
 refine calls_val env mixed Tryz.func69 has69 Tryz.ntmps69 [.slice o S.length c] (by simp) ?_
 have cz := fun (w' : World) (hw : Below w.heap.size w w') => Grow_zero w'
 skip
 refine loopE (fun k : Nat => [(0, .v (.slice o S.length c)), (3, .v (iv 0)), (9, .v (.slice o S.length c)), (10, .v (iv S.length)), (11, .v (iv k))]) (fun _ => []) (fun k => k ≤ S.length) (fun k => S.length - k) 0 (Nat.zero_le _) ⟨rfl, rfl, rfl, rfl, rfl, trivial⟩ trivial (fun _ => ⟨rfl, rfl⟩) ?_
 intro k hk
 rcases Nat.lt_or_ge k S.length with hkl | hkl
 · obtain ⟨⟨so, sc, L⟩, hx⟩ : ∃ b, S[k]? = some b := ⟨_, List.getElem?_eq_getElem hkl⟩
   obtain ⟨_, ad, rfl, _⟩ := hrd.ptr (by omega)
   have e1 := fun (w' : World) hw' => rd_ati (hrd.below (w' := w') hw') hx
   have hL := hz _ (List.mem_of_getElem? hx)
   have hz1 := hz0 _ (List.mem_of_getElem? hx) hL
   dsimp only at hL hz1; subst hL; obtain ⟨rfl, rfl⟩ := hz1
   repeat'
    conv => whnf
    first
     |refine zF ?_|refine zG ?_|refine splF ?_
     |(refine splD ?_ ?_ <;> intro hc <;> first|(exfalso; omega)|skip)
     |refine eL [.slice none 0 0] ⟨⟨rfl, fun w' hw' => e1 w' hw'⟩, ?_⟩
   all_goals exact ⟨k + 1, by omega, by omega, Ent.weak rfl ⟨rfl, rfl, rfl, rfl, rfl, trivial⟩ trivial fun _ h => h⟩
 · obtain rfl : k = S.length := by omega
   repeat'
    conv => whnf
    first
     |refine zD ?_
     |(refine splD ?_ ?_ <;> intro hc <;> first|(exfalso; omega)|skip)
     |((with_reducible show CallEv _ _ 102 ..); refine callE (fun β w' hbw => cz _ hbw) ?_)
   conv => whnf
   refine loopE (fun k : Nat => [(6, .v (.slice none 0 0)), (25, .v (.slice o S.length c)), (26, .v (iv S.length)), (27, .v (iv k))]) (fun _ => []) (fun k => k ≤ S.length) (fun k => S.length - k) 0 (Nat.zero_le _) ⟨rfl, rfl, rfl, rfl, trivial⟩ trivial (fun _ => ⟨rfl, rfl⟩) ?_
   intro k hk
   rcases Nat.lt_or_ge k S.length with hkl | hkl
   · obtain ⟨⟨so, sc, L⟩, hx⟩ : ∃ b, S[k]? = some b := ⟨_, List.getElem?_eq_getElem hkl⟩
     obtain ⟨_, ad, rfl, _⟩ := hrd.ptr (by omega)
     have e1 := fun (w' : World) hw' => rd_ati (hrd.below (w' := w') hw') hx
     have hL := hz _ (List.mem_of_getElem? hx)
     have hz1 := hz0 _ (List.mem_of_getElem? hx) hL
     dsimp only at hL hz1; subst hL; obtain ⟨rfl, rfl⟩ := hz1
     repeat'
      conv => whnf
      first
       |refine zB ?_|refine zF ?_|refine zG ?_
       |(refine splD ?_ ?_ <;> intro hc <;> first|(exfalso; omega)|skip)
       |refine eL [.slice none 0 0] ⟨⟨rfl, fun w' hw' => e1 w' hw'⟩, ?_⟩
     all_goals exact ⟨k + 1, by omega, by omega, Ent.weak rfl ⟨rfl, rfl, rfl, rfl, trivial⟩ trivial fun _ h => h⟩
   · obtain rfl : k = S.length := by omega
     repeat'
      conv => whnf
      first
       |(refine splD ?_ ?_ <;> intro hc <;> first|(exfalso; omega)|skip)
     all_goals exact ⟨fun β => rfl, fun w' h => h⟩
theorem Concat_ok (o : Option Addr) (c : Nat) (S : List Lr) (w : World) (h : TbL o c S w) (hl : S.length ≤ 45) (hrl : ∀ r ∈ S, r.L.length ≤ 10) (hz0 : ∀ r ∈ S, r.L = [] → r.o = none ∧ r.c = 0) :
 Calls Tryz.prog 69 #[.slice o S.length c] w fun e w' => ∃ y : Option Addr × Nat, e = .returned (sV (flL S).length y) ∧ Below w.heap.size w w' ∧ St w.heap.size (Rd 3 Ln.cs (sV (flL S).length y) (flL S)) w' := by
 by_cases h0 : flL S = []
 · refine (Concat_nil o c S w h hl hrl hz0 h0).mono fun e w' ⟨h1, h2⟩ => ⟨(none, 0), ?_, h2, fun _ _ => .inl ⟨?_, h0⟩⟩
   · rw [h1, h0]; rfl
   · rw [h0]; rfl
 obtain ⟨hrd, hR⟩ := h
 refine calls_fam env mixed Tryz.func69 has69 Tryz.ntmps69 [.slice o S.length c] (by simp) ?_
 have hnp : 1 ≤ (flL S).length := by cases hh : flL S with | nil => exact absurd hh h0 | cons a l => simp
 have hnl : (flL S).length ≤ 450 := by
  have := flL_le (m := 10) (k := S.length) hrl
  rw [List.take_length] at this
  omega
 have cz := fun (w' : World) (hw : Below w.heap.size w w') => (Grow_own (flL S).length w' ⟨hnp, by omega⟩)
 skip
 refine loopE (fun k : Nat => [(0, .v (.slice o S.length c)), (3, .v (iv (flL (S.take k)).length)), (9, .v (.slice o S.length c)), (10, .v (iv S.length)), (11, .v (iv k))]) (fun _ => []) (fun k => k ≤ S.length) (fun k => S.length - k) 0 (Nat.zero_le _) ⟨rfl, rfl, rfl, rfl, rfl, trivial⟩ trivial (fun _ => ⟨rfl, rfl⟩) ?_
 intro k hk
 rcases Nat.lt_or_ge k S.length with hkl | hkl
 · obtain ⟨⟨so, sc, L⟩, hx⟩ : ∃ b, S[k]? = some b := ⟨_, List.getElem?_eq_getElem hkl⟩
   obtain ⟨_, ad, rfl, _⟩ := hrd.ptr (by omega)
   have e1 := fun (w' : World) hw' => rd_ati (hrd.below (w' := w') hw') hx
   have hL := hrl _ (List.mem_of_getElem? hx)
   have ht := flL_take hx
   have hle := flL_le (m := 10) (k := k) hrl
   dsimp only at hL
   have ht2 : (flL (S.take (k + 1))).length = (flL (S.take k)).length + L.length := by rw [ht, List.length_append]
   generalize (flL (S.take k)).length = m at *
   repeat'
    conv => whnf
    first
     |refine zF ?_|refine zG ?_|refine splF ?_
     |(refine splD ?_ ?_ <;> intro hc <;> first|(exfalso; omega)|skip)
     |refine eL [.slice so L.length sc] ⟨⟨rfl, fun w' hw' => e1 w' hw'⟩, ?_⟩
   all_goals exact ⟨k + 1, by omega, by omega, Ent.weak rfl ⟨rfl, by rw [ht2]; rfl, rfl, rfl, rfl, trivial⟩ trivial fun _ h => h⟩
 · obtain rfl : k = S.length := by omega
   rw [List.take_length]
   repeat'
    conv => whnf
    first
     |refine zD ?_
     |(refine splD ?_ ?_ <;> intro hc <;> first|(exfalso; omega)|skip)
     |((with_reducible show CallEv _ _ 102 ..); refine callO 0 [] (.os 0 1 0) 0 3 [] 46 rfl (fun β w' _ hbw => cz w' hbw) ?_)
   conv => whnf
   refine loopN 2 (fun k : Nat => [(6, .os 0 1 (flL (S.take k)).length), (25, .v (.slice o S.length c)), (26, .v (iv S.length)), (27, .v (iv k))]) (fun k => [(0, .own 1 (flL (S.take k)).length 3 ((flL (S.take k)).flatMap Ln.cs) 46)]) (fun k => k ≤ S.length) (fun k => S.length - k) 0 (Nat.zero_le _) ⟨rfl, rfl, rfl, rfl, trivial⟩ ⟨rfl, trivial⟩ (fun _ _ => ⟨rfl, rfl⟩) ?_
   intro k hk
   rcases Nat.lt_or_ge k S.length with hkl | hkl
   · obtain ⟨⟨so, sc, L⟩, hx⟩ : ∃ b, S[k]? = some b := ⟨_, List.getElem?_eq_getElem hkl⟩
     obtain ⟨_, ad, rfl, _⟩ := hrd.ptr (by omega)
     have e1 := fun (w' : World) hw' => rd_ati (hrd.below (w' := w') hw') hx
     have hL := hrl _ (List.mem_of_getElem? hx)
     have hR1 := hR _ (List.mem_of_getElem? hx)
     have hz1 := hz0 _ (List.mem_of_getElem? hx)
     have ht := flL_take hx
     have hle := flL_le (m := 10) (k := k) hrl
     dsimp only at hL hR1 hz1 ht
     have ht2 : (flL (S.take (k + 1))).length = (flL (S.take k)).length + L.length := by rw [ht, List.length_append]
     generalize flL (S.take k) = T at *
     generalize hT2 : flL (S.take (k + 1)) = T2 at *
     generalize hm : T.length = m at *
     generalize hm2 : T2.length = m2 at *
     subst ht
     cases L with
     | nil =>
      obtain ⟨rfl, rfl⟩ := hz1 rfl
      simp only [List.append_nil, List.length_nil, Nat.add_zero] at ht2 hT2 ⊢
      subst ht2
      repeat'
       conv => whnf
       first
        |refine zB ?_|refine zF ?_|refine zG ?_|refine zH ?_
        |(refine splD ?_ ?_ <;> intro hc <;> first|(exfalso; omega)|skip)
        |refine eL [.slice none 0 0] ⟨⟨rfl, fun w' hw' => e1 w' hw'⟩, ?_⟩
      all_goals exact ⟨k + 1, by omega, by omega, Ent.weak rfl ⟨by rw [hT2, hm]; rfl, rfl, rfl, rfl, trivial⟩ ⟨by rw [hT2, hm]; rfl, trivial⟩ fun _ h => h⟩
     | cons x L =>
      obtain ⟨_, ad2, rfl, _⟩ := hR1.ptr (by simp)
      have he := fun (w' : World) (hb : Below w.heap.size w w') => Rd.ext (f := Ln.cs) (sz := 3) (fun _ => rfl) (hR1.below hb)
      have hon : ∀ v ∈ (x :: L).flatMap Ln.cs, v.oneCell' = true := fun v hv => by
       obtain ⟨a, _, ha⟩ := List.mem_flatMap.1 hv
       simp only [List.mem_cons, List.not_mem_nil, or_false] at ha
       rcases ha with rfl | rfl | rfl <;> rfl
      have hln : ((x :: L).flatMap Ln.cs).length = (L.length + 1) * 3 := lenLn (x :: L)
      have hfm : (T ++ x :: L).flatMap Ln.cs = T.flatMap Ln.cs ++ (x :: L).flatMap Ln.cs := List.flatMap_append
      generalize (x :: L).flatMap Ln.cs = X at *
      simp only [List.length_cons] at hL ht2
      repeat'
       conv => whnf
       first
        |refine zB ?_|refine zF ?_|refine zG ?_|refine zH ?_|refine zI ?_
        |(refine splD ?_ ?_ <;> intro hc <;> first|(exfalso; omega)|skip)
        |refine eL [.slice (some ad2) (L.length + 1) sc] ⟨⟨rfl, fun w' hw' => e1 w' hw'⟩, ?_⟩
        |refine eL X ⟨⟨hln, fun w' hw' => he w' hw', hon⟩, ?_⟩
      all_goals exact ⟨k + 1, by omega, by omega, Ent.ren (rho [(0, 2), (1, 3)]) rfl rfl ⟨by rw [hT2, hm2, ht2]; rfl, rfl, rfl, rfl, trivial⟩ ⟨by rw [hT2, hm2, ht2, hfm]; rfl, trivial⟩ fun _ h => h⟩
   · obtain rfl : k = S.length := by omega
     rw [List.take_length]
     repeat'
      conv => whnf
      first
       |(refine splD ?_ ?_ <;> intro hc <;> first|(exfalso; omega)|skip)
     generalize flL S = T at *
     cases T with
     | nil => exact absurd rfl h0
     | cons x L =>
      exact ⟨fun w' h => h, fun β w' hB hblk => oEnd (sz := 3) (f := Ln.cs) (fun _ => rfl) x L (hblk 0 _ rfl rfl)⟩
end Go.Proofs.YtkbfcofifhngfaaGreat
namespace Go.Proofs.YtkbfcofifhngfaaGreat.Tx
open Go Go.RowKit
theorem mkMv {P : Program} {dst : Option Tmp} {ty : TypeId} {pos : String} {after : Array Edge} {gd : Option (Nat × Bool)} {gs : List Nat} {σ : Sg} {K : Ef → Prop} {f : Fn} {x : Operand} {s : SV} (V : Value) (hx : gv σ x = some s) (hV : ∀ β, s.c β = V)
 (hB : efB σ ⟨.v (.func f #[V] #[]), [], [], gs ++ os x, []⟩ = true) (hK : K ⟨.v (.func f #[V] #[]), [], [], gs ++ os x, []⟩) : OpEv P ⟨dst, .makeFunc f #[x] #[], ty, pos, after, gd⟩ gs σ K := by
 refine .mk _ hB (fun k hk => by simp [hk]) rfl (runOK_pure fun β a w hs => ?_) hK
 have e1 := gv_eval hs hx (fun k hk => by simp [hk])
 rw [hV] at e1
 simp only [execOp, Instr.makeFunc, SV.c, Sem.run_bind, Sem.run_pure, Result.andThen_ok, List.map_toArray, List.map_nil, List.map_cons, e1]
end Go.Proofs.YtkbfcofifhngfaaGreat.Tx
namespace Go.Proofs.YtkbfcofifhngfaaGreat
open Go Tx Go.RowKit
theorem rd_take {α : Type} {sz : Nat} {f : α → List Value} {ad : Addr} {c : Nat} {L : List α} {w : World} (h : Rd sz f (.slice (some ad) L.length c) L w) {k : Nat} (hk : k ≤ L.length) : Rd sz f (.slice (some ad) k c) (L.take k) w := by
 rcases h with ⟨h, _⟩ | ⟨ad', d, h, h2⟩
 · cases h
 · simp only [Value.slice.injEq, Option.some.injEq, true_and] at h
   obtain ⟨rfl, rfl⟩ := h
   refine .inr ⟨_, _, by rw [List.length_take, Nat.min_eq_left hk], fun i b hi => h2 i b ?_⟩
   rw [List.getElem?_take] at hi
   split at hi
   · exact hi
   · cases hi
theorem dsB_take {L : List Ln} {k : Nat} {x : Ln} (h : L[k]? = some x) : alN (fun i => !cfB x (lnAt (L.take k) i)) (L.take k).length = dsB L k := by
 have hk : k < L.length := (List.getElem?_eq_some_iff.1 h).1
 rw [List.length_take, Nat.min_eq_left (Nat.le_of_lt hk), dsB, lnAt_at h]
 refine alN_congr _ fun i hi => ?_
 have : lnAt (L.take k) i = lnAt L i := by
  unfold lnAt
  rw [List.getD_eq_getElem?_getD, List.getD_eq_getElem?_getD, List.getElem?_take, if_pos hi]
 rw [this]
theorem slot_ok (s : Sc) (L : List Ln) (o : Option Addr) (c : Nat) (w : World) (h : ScIn s w) (hB : ScB s) (hs : -1000000 ≤ s.su ∧ s.su ≤ 1000000) (hrd : Rd 3 Ln.cs (.slice o L.length c) L w) (hl : L.length ≤ 1000000) (hc : L.length ≤ c) :
 Calls Tryz.prog 68 #[s.v, .slice o L.length c] w fun e w' => e = .returned (.bool (sltB s.d L)) ∧ Below w.heap.size w w' := by
 have c100 := fun (w' : World) (hw : Below w.heap.size w w') => allL_ok s L o c w' (h.below hw) hB hs (hrd.below hw) hl
 obtain ⟨sl, ro, su, go, gc, G, to, tc, T⟩ := s
 unfold sltB
 rw [show (Sc.d ⟨sl, ro, su, go, gc, G, to, tc, T⟩).ro = ro from rfl]
 generalize hq : L.all (lesB (Sc.d ⟨sl, ro, su, go, gc, G, to, tc, T⟩)) = q at *
 refine calls_val env mixed Tryz.func68 has68 Tryz.ntmps68 [.agg #[iv sl, iv ro, iv su, .slice go G.length gc, .slice to T.length tc], .slice o L.length c] (by simp) ?_
 skip
 refine loopN 1 (fun k : Nat => [(1, .v (.slice o L.length c)), (2, .ptr 0 0), (7, .v (.slice o L.length c)), (8, .v (iv L.length)), (9, .v (iv k))]) (fun _ => [(0, .cells [.v (iv sl), .v (iv ro), .v (iv su), .v (.slice go G.length gc), .v (.slice to T.length tc)] 34)]) (fun k => k ≤ L.length ∧ alN (dsB L) k = true) (fun k => L.length - k) 0 ⟨Nat.zero_le _, rfl⟩ ⟨rfl, rfl, rfl, rfl, rfl, trivial⟩ ⟨rfl, trivial⟩ (fun _ _ => ⟨rfl, rfl⟩) ?_
 intro k ⟨hk, hall⟩
 rcases Nat.lt_or_ge k L.length with hkl | hkl
 · obtain ⟨x, hx⟩ : ∃ b, L[k]? = some b := ⟨_, List.getElem?_eq_getElem hkl⟩
   obtain ⟨_, ad, rfl, _⟩ := hrd.ptr (by omega)
   have e1 := fun (w' : World) hw' => rd_ati (hrd.below (w' := w') hw') hx
   have hds := dsB_take hx
   have hlk : k = (L.take k).length := by rw [List.length_take]; omega
   have c98 := fun (b : Nat) (w' : World) (hw : Below w.heap.size w w') (hb : w'.heap[b]? = some (.cells x.cs.toArray 46 (0, 0))) => anyC_ok x b (L.take k) (some ad) k c w' hlk hb (hlk ▸ rd_take (hrd.below hw) hk) (by omega)
   rw [hds] at c98
   obtain ⟨x1, x2, x3⟩ := x
   cases hd : dsB L k with
   | false =>
    rw [hd] at c98
    rw [alN_no hkl hd]
    repeat'
     conv => whnf
     first
      |refine zC ?_|refine zD ?_|refine zG ?_|refine splT ?_
      |(refine splD ?_ ?_ <;> intro hc <;> first|(exfalso; omega)|skip)
      |refine eL [iv x1, iv x2, iv x3] ⟨⟨rfl, fun w' hw' => e1 w' hw'⟩, ?_⟩
      |refine slHi env (z := k) rfl rfl rfl rfl (by omega) rfl ?_
      |((with_reducible show CallEv _ _ 98 ..); refine callM [1] (fun β w' hbk hbw => c98 _ _ (by repeat (first | exact hbw | replace hbw := hbw.1)) (hbk 1 (by simp) _ rfl)) ?_)
    all_goals exact ⟨fun β => congrArg Value.bool (by simp), fun w' h => h⟩
   | true =>
    rw [hd] at c98
    repeat'
     conv => whnf
     first
      |refine zC ?_|refine zD ?_|refine zF ?_|refine zG ?_|refine splF ?_
      |(refine splD ?_ ?_ <;> intro hc <;> first|(exfalso; omega)|skip)
      |refine eL [iv x1, iv x2, iv x3] ⟨⟨rfl, fun w' hw' => e1 w' hw'⟩, ?_⟩
      |refine slHi env (z := k) rfl rfl rfl rfl (by omega) rfl ?_
      |((with_reducible show CallEv _ _ 98 ..); refine callM [1] (fun β w' hbk hbw => c98 _ _ (by repeat (first | exact hbw | replace hbw := hbw.1)) (hbk 1 (by simp) _ rfl)) ?_)
    all_goals exact ⟨k + 1, ⟨by omega, by rw [alN, hall, hd]; rfl⟩, by omega, Ent.weak rfl ⟨rfl, rfl, rfl, rfl, rfl, trivial⟩ ⟨rfl, trivial⟩ fun _ h => h⟩
 · obtain rfl : k = L.length := by omega
   rw [hall]
   repeat'
    conv => whnf
    first
     |refine zB ?_|refine zD ?_
     |(refine splD ?_ ?_ <;> intro hc <;> first|(exfalso; omega)|skip)
     |refine mkMv (.agg #[iv sl, iv ro, iv su, .slice go G.length gc, .slice to T.length tc]) rfl (fun _ => rfl) rfl ?_
     |((with_reducible show CallEv _ _ 100 ..); refine callE (fun β w' hbw => c100 _ hbw) ?_)
   all_goals exact ⟨fun β => congrArg Value.bool (by simp [*]), fun w' h => h⟩
theorem all67_ok (s : Sc) (C : List Lr) (o : Option Addr) (c : Nat) (w : World) (h : ScIn s w) (hB : ScB s) (hs : -1000000 ≤ s.su ∧ s.su ≤ 1000000) (ht : TbL o c C w) (hl : C.length ≤ 1000000) (hrl : ∀ r ∈ C, r.L.length ≤ 1000000) (hc : ∀ r ∈ C, r.L.length ≤ r.c) :
 Calls Tryz.prog 67 #[.slice o C.length c, .func (.func 68) #[s.v] #[]] w fun e w' => e = .returned (.bool ((C.map Lr.L).all (sltB s.d))) ∧ Below w.heap.size w w' := by
 obtain ⟨hrd, hR⟩ := ht
 refine calls_val env mixed Tryz.func67 has67 Tryz.ntmps67 [.slice o C.length c, .func (.func 68) #[s.v] #[]] (by simp) ?_
 repeat'
  conv => whnf
  first
   |refine zD ?_
   |((with_reducible show CallEv _ _ 96 ..); refine callI env mixed 1000 [] Tryz.func96 has96 Tryz.ntmps96 (Nat.le_of_ble_eq_true rfl) rfl rfl rfl ?_)
   |((with_reducible show CallEv _ _ 132 ..); refine callI env mixed 2000 [] Tryz.func132 has132 Tryz.ntmps132 (Nat.le_of_ble_eq_true rfl) rfl rfl rfl ?_)
 refine loopE (fun k : Nat => [(0, .v (.slice o C.length c)), (1, .fn (.func 97) [.ptr 0 0]), (7, .v (iv C.length)), (8, .v (iv k))]) (fun _ => [(0, .cells [.v (.func (.func 68) #[s.v] #[])] 115)]) (fun k => k ≤ C.length ∧ ((C.take k).map Lr.L).all (sltB s.d) = true) (fun k => C.length - k) 0 ⟨Nat.zero_le _, rfl⟩ ⟨rfl, rfl, rfl, rfl, trivial⟩ ⟨rfl, trivial⟩ (fun _ => ⟨rfl, rfl⟩) ?_
 intro k ⟨hk, hall⟩
 rcases Nat.lt_or_ge k C.length with hkl | hkl
 · obtain ⟨⟨ro, rc, L⟩, hx⟩ : ∃ b, C[k]? = some b := ⟨_, List.getElem?_eq_getElem hkl⟩
   obtain ⟨_, ad, rfl, _⟩ := hrd.ptr (by omega)
   have hr := hR _ (List.mem_of_getElem? hx)
   have hrb := hrl _ (List.mem_of_getElem? hx)
   have hrc := hc _ (List.mem_of_getElem? hx)
   dsimp only at hrb hr hrc
   have ht := all_mapT (f := Lr.L) (p := sltB s.d) hx
   rw [hall, Bool.true_and] at ht
   have hno := all_mapN (f := Lr.L) (p := sltB s.d) hx
   have e0 := fun (w' : World) hw' => rd_ati (hrd.below (w' := w') hw') hx
   have hv := fun (w' : World) (hw : Below w.heap.size w w') => slot_ok s L ro rc w' (h.below hw) hB hs (hr.below hw) hrb hrc
   dsimp only at ht hno
   cases hg : sltB s.d L with
   | true =>
    rw [hg] at hv ht
    repeat'
     conv => whnf
     first
      |refine zB ?_|refine zD ?_|refine zF ?_|refine zG ?_|refine splF ?_
      |(refine splD ?_ ?_ <;> intro hc <;> first|(exfalso; omega)|skip)
      |refine eL [.slice ro L.length rc] ⟨⟨rfl, fun w' hw' => e0 w' hw'⟩, ?_⟩
      |((with_reducible show CallEv _ _ 97 ..); refine callI env mixed 3000 [0,1,5,7,8] Tryz.func97 has97 Tryz.ntmps97 (Nat.le_of_ble_eq_true rfl) rfl rfl rfl ?_)
      |((with_reducible show CallEv _ _ 68 ..); refine callE (fun β w' hbw => hv _ hbw) ?_)
    all_goals exact ⟨k + 1, ⟨by omega, ht⟩, by omega, Ent.weak rfl ⟨rfl, rfl, rfl, rfl, trivial⟩ ⟨rfl, trivial⟩ fun _ h => h⟩
   | false =>
    rw [hg] at hv ht
    rw [hno hg]
    repeat'
     conv => whnf
     first
      |refine zB ?_|refine zD ?_|refine zG ?_|refine splT ?_
      |(refine splD ?_ ?_ <;> intro hc <;> first|(exfalso; omega)|skip)
      |refine eL [.slice ro L.length rc] ⟨⟨rfl, fun w' hw' => e0 w' hw'⟩, ?_⟩
      |((with_reducible show CallEv _ _ 97 ..); refine callI env mixed 3000 [0,1,5,7,8] Tryz.func97 has97 Tryz.ntmps97 (Nat.le_of_ble_eq_true rfl) rfl rfl rfl ?_)
      |((with_reducible show CallEv _ _ 68 ..); refine callE (fun β w' hbw => hv _ hbw) ?_)
    all_goals exact ⟨fun β => rfl, fun w' h => h⟩
 · rw [List.take_of_length_le hkl] at hall
   rw [hall]
   repeat'
    conv => whnf
    first
     |(refine splD ?_ ?_ <;> intro hc <;> first|(exfalso; omega)|skip)
   all_goals exact ⟨fun β => rfl, fun w' h => h⟩
end Go.Proofs.YtkbfcofifhngfaaGreat
namespace Go.Proofs.YtkbfcofifhngfaaGreat.Tx
open Go Go.RowKit
theorem replK_mk2 : ∀ {l ys : List SV} {K : List SV → Prop}, ys.length ≤ l.length → K (ys ++ l.drop ys.length) → replK l ys K
 | l, [], K, _, h => by cases l <;> simpa [replK] using h
 | x :: l, y :: ys, K, hn, h => replK_mk2 (l := l) (K := fun l => K (y :: l)) (by simpa using hn) h
 | [], y :: ys, _, hn, _ => by simp at hn
theorem splK_mk2 : ∀ {n : Nat} {l ys : List SV} {K : List SV → Prop}, n + ys.length ≤ l.length → K (l.take n ++ ys ++ l.drop (n + ys.length)) → splK n l ys K
 | 0, l, ys, K, hn, h => replK_mk2 (by omega) (by simpa using h)
 | n + 1, x :: l, ys, K, hn, h => by
  refine splK_mk2 (l := l) (K := fun l => K (x :: l)) (by simp only [List.length_cons] at hn; omega) ?_
  rw [show n + 1 + ys.length = (n + ys.length) + 1 from by omega] at h
  exact h
 | n + 1, [], ys, _, hn, _ => by simp at hn
theorem splK_to {n : Nat} {l ys l' : List SV} {K : List SV → Prop} (hl : n + ys.length ≤ l.length) (he : l.take n ++ ys ++ l.drop (n + ys.length) = l') (h : K l') : splK n l ys K := splK_mk2 hl (he ▸ h)
theorem copyE {P : Program} (T : Env P) {dst : Option Tmp} {ty : TypeId} {pos : String} {after : Array Edge} {gd : Option (Nat × Bool)} {gs : List Nat} {σ : Sg} {K : Ef → Prop} {KF : Option KT} {t t' e i o n c m sc : Nat} {so : Option Addr} {x y : Operand} {l : List SV} {ty2 : Nat} (xs : List Value)
 {sz : Nat} {zr : List Value} {by_ : Nat} {ti : TI} (hx : gv σ x = some (.sl i o n c)) (hy : gv σ y = some (.v (.slice so m sc))) (hm : lk σ.m i = some (.cells l ty2)) (ht : T.ty t = some ⟨sz, zr, by_, .slice e⟩) (he : T.ty e = some ti) (h1 : ti.size = 1)
 (hmn : m ≤ n) (hxl : xs.length = m) (ho : o + m ≤ l.length) (hon : ∀ v ∈ xs, v.oneCell' = true) (hso : so = none → m = 0) (hrd : ∀ ad, so = some ad → ∀ w, σ.h w → ∀ j v, xs[j]? = some v → w.cell? (ad.add j) = some v)
 (l' : List SV) (hl' : l.take o ++ xs.map .v ++ l.drop (o + m) = l') (hi : Nat.blt i σ.nb = true) (hls : SV.lts σ.nb l' = true)
 (hK : K ⟨.v (iv m), [], [(i, .cells l' ty2)], gs ++ (os x ++ os y), [i]⟩) :
 OpEvS P ⟨dst, .call ⟨.builtin .copy, #[x, y], #[t, t']⟩, ty, pos, after, gd⟩ gs σ K KF := by
 refine .mk ⟨.v (iv m), [], [(i, .cells l' ty2)], gs ++ (os x ++ os y), [i]⟩ (by simp [efB, eqs, modsLt, oldB, keysB, nodupB, hi, Blk.lt, hls, hm, Blk.live, SV.lt, nin]) (fun k hk => by simp [hk]) rfl (fun β a w hs => ?_) hK
 have e1 := gv_eval hs hx (fun k hk => by simp [hk])
 have e2 := gv_eval hs hy (fun k hk => by simp [hk])
 have e3 : w.heap[β i]? = some (.cells (SV.cs β l).toArray ty2 (0, 0)) := by
  have := hs.m i (by simp) _ hm
  simpa [Blk.ok] using this
 have hu := under_slice (T.tok t _ ht) rfl
 have hcl : (SV.cs β l).length = l.length := by rw [SV.cs_eq, List.length_map]
 have hfc : (Builtin.firstCells 1 m (.slice so m sc)).run P w = .ok xs.toArray w := by
  cases so with
  | none =>
   have := hso rfl
   subst this
   have hx0 : xs = [] := List.eq_nil_of_length_eq_zero hxl
   subst hx0
   rw [run_firstCells_none]
  | some ad => exact run_firstCells_some w 1 m ad m sc xs (by rw [hxl, Nat.mul_one]) (hrd ad rfl w hs.h)
 have hrun := run_storeCells_at (P := P) (β i) o ty2 xs 0 _ w e3 (by rw [List.size_toArray, hcl]; omega) hon
 simp only [Nat.add_zero] at hrun
 refine ⟨β, w.setRow (β i) ((SV.cs β l).take o ++ xs ++ (SV.cs β l).drop (o + xs.length)).toArray, ?_, .inl ?_⟩
 · refine ⟨fun _ _ => rfl, ⟨rfl, rfl, rfl, by simp [World.setRow], fun b hb hX => ?_⟩, fun q b hq => ?_, fun q hq => (by cases hq), fun q hq => (by cases hq)⟩
   · have hne : β i ≠ b := fun e => hX ⟨i, _, List.mem_singleton.2 rfl, by simp, e⟩
     simp only [World.setRow, Array.getElem?_modify]
     rw [if_neg hne]
   · simp only [List.mem_singleton, Prod.mk.injEq] at hq
     obtain ⟨rfl, rfl⟩ := hq
     show Blk.ok β _ (β q) (.cells _ ty2)
     simp only [Blk.ok]
     rw [setRow_heap w _ _ _ ty2 _ e3, ← hl']
     congr 2
     rw [SV.cs_eq, SV.cs_eq, List.map_append, List.map_append, List.map_take, List.map_drop, hxl, List.map_map]
     congr 3
     exact (List.map_id _).symm
 · have hx0 : (#[x, y] : Array Operand).map a.eval = #[a.eval x, a.eval y] := by simp
   have hsz := (T.tok e ti he).run_sizeOf w
   have hmin : Nat.min m n = m := Nat.min_eq_left hmn
   simp only [execOp, resolve, invoke, builtin, hx0, e1, e2, SV.c]
   simp [Sem.run_bind, Builtin.copy_, Go.run_underlying hu w, Builtin.lenOf, hsz, h1, hmin, hfc, hrun, goInt]
end Go.Proofs.YtkbfcofifhngfaaGreat.Tx
namespace Go.Proofs.YtkbfcofifhngfaaGreat
open Go Tx Go.RowKit
def tbS (n : Nat) (f : Nat → Int) : List SV := (List.range n).map fun p => .v (iv (f p))
def tbV (n : Nat) (f : Nat → Int) : List Value := (List.range n).map fun p => iv (f p)
theorem tbS_v (n : Nat) (f : Nat → Int) : tbS n f = (tbV n f).map .v := by rw [tbS, tbV, List.map_map]; rfl
theorem tbS_len (n : Nat) (f : Nat → Int) : (tbS n f).length = n := by simp [tbS]
theorem tbV_len (n : Nat) (f : Nat → Int) : (tbV n f).length = n := by simp [tbV]
theorem tbS_lt (m n : Nat) (f : Nat → Int) : SV.lts m (tbS n f) = true := by rw [tbS_v]; exact lts_v _ _
theorem tbV_at {n : Nat} (f : Nat → Int) {p : Nat} (h : p < n) : (tbV n f)[p]? = some (iv (f p)) := by simp [tbV, h]
theorem tbS_drop {n : Nat} (f : Nat → Int) {p : Nat} (h : p < n) : (tbS n f).drop p = .v (iv (f p)) :: (tbS n f).drop (p + 1) := by
 rw [List.drop_eq_getElem_cons (by rw [tbS_len]; exact h)]
 simp [tbS]
def updF (f : Nat → Int) (p : Nat) (v : Int) : Nat → Int := fun q => if q = p then v else f q
theorem tbV_set {n : Nat} (f : Nat → Int) {p : Nat} (v : Int) (h : p < n) : (tbV n f).take p ++ [iv v] ++ (tbV n f).drop (p + 1) = tbV n (updF f p v) := by
 have e : (tbV n f).take p ++ [iv v] ++ (tbV n f).drop (p + 1) = (tbV n f).set p (iv v) := by
  rw [List.set_eq_take_append_cons_drop, if_pos (by rw [tbV_len]; exact h), List.append_assoc, List.singleton_append]
 rw [e]
 apply List.ext_getElem?
 intro q
 rw [List.getElem?_set, tbV_len]
 by_cases hq : p = q
 · subst hq; rw [if_pos rfl, if_pos h, tbV_at _ h]; simp [updF]
 · rw [if_neg hq]
   by_cases hn : q < n
   · rw [tbV_at _ hn, tbV_at _ hn, updF, if_neg (fun h => hq h.symm)]
   · rw [List.getElem?_eq_none (by rw [tbV_len]; omega), List.getElem?_eq_none (by rw [tbV_len]; omega)]
theorem tbS_set {n : Nat} (f : Nat → Int) {p : Nat} (v : Int) (h : p < n) : (tbS n f).take p ++ [.v (iv v)] ++ (tbS n f).drop (p + 1) = tbS n (updF f p v) := by
 rw [tbS_v, tbS_v, ← tbV_set f v h, List.map_append, List.map_append, List.map_take, List.map_drop]; rfl
theorem und3 : Tryz.prog.underlying 3 = some (.int .i64) := by kernel_rfl
theorem und116 : Tryz.prog.underlying 116 = some (.array 6 3) := by kernel_rfl
theorem und117 : Tryz.prog.underlying 117 = some (.array 8 116) := by kernel_rfl
theorem eqIn3 (d : Nat) (a b : Int) (w : World) : (Op.equalIn (d + 1) 3 (iv a) (iv b)).run Tryz.prog w = .ok (a == b) w := by
 simp [Op.equalIn, Go.run_underlying und3 w]
theorem part3 {X : Array Value} {o : Nat} {a : Int} (h : X[o]? = some (iv a)) (w : World) : (part 3 X o).run Tryz.prog w = .ok (iv a) w := by
 have ha : (isAgg 3).run Tryz.prog w = .ok false w := (env.tok 3 _ rfl).run_isAgg w
 simp [part, Sem.run_bind, ha, h]
theorem eqI3 (d : Nat) (f g : Nat → Int) (X Y : Array Value) (w : World) : ∀ is : List Nat, (∀ i ∈ is, X[i]? = some (iv (f i)) ∧ Y[i]? = some (iv (g i))) →
 (Op.eqItems (d + 1) 3 1 X Y is).run Tryz.prog w = .ok (is.all fun i => f i == g i) w := by
 intro is
 induction is with
 | nil => intro _; rfl
 | cons i is ih =>
  intro h
  have hi := h i (by simp)
  have ih := ih fun j hj => h j (by simp [hj])
  simp only [Op.eqItems, Sem.run_bind, Nat.mul_one, part3 hi.1 w, part3 hi.2 w, Result.andThen_ok, eqIn3, List.all_cons]
  cases hc : (f i == g i) with
  | true => simpa using ih
  | false => simp
theorem eqI116 (d : Nat) (f g : Nat → Int) (w : World) : ∀ is : List Nat, (∀ i ∈ is, i < 8) →
 (Op.eqItems (d + 2) 116 6 (tbV 48 f).toArray (tbV 48 g).toArray is).run Tryz.prog w = .ok (is.all fun i => (List.range 6).all fun j => f (i * 6 + j) == g (i * 6 + j)) w := by
 intro is
 induction is with
 | nil => intro _; rfl
 | cons i is ih =>
  intro h
  have hi := h i (by simp)
  have ih := ih fun j hj => h j (by simp [hj])
  have hp : ∀ f : Nat → Int, (part 116 (tbV 48 f).toArray (i * 6)).run Tryz.prog w = .ok (.agg ((tbV 48 f).toArray.extract (i * 6) (i * 6 + 6))) w := fun f => by
   have ha : (isAgg 116).run Tryz.prog w = .ok true w := (env.tok 116 _ rfl).run_isAgg w
   have hb : (sizeOf 116).run Tryz.prog w = .ok 6 w := (env.tok 116 _ rfl).run_sizeOf w
   simp only [part, Sem.run_bind, ha, hb, Result.andThen_ok, if_true, Sem.run_pure]
  have hx : ∀ (f : Nat → Int) (j : Nat), j < 6 → ((tbV 48 f).toArray.extract (i * 6) (i * 6 + 6))[j]? = some (iv (f (i * 6 + j))) := fun f j hj => by
   rw [Array.getElem?_extract, if_pos (by rw [List.size_toArray, tbV_len]; omega), List.getElem?_toArray, tbV_at f (by omega)]
  obtain ⟨i0, z, q1, _⟩ := (env.tok 3 _ rfl).row
  have h1 := run_equalIn_array (P := Tryz.prog) w (d + 1) ((tbV 48 f).toArray.extract (i * 6) (i * 6 + 6)) ((tbV 48 g).toArray.extract (i * 6) (i * 6 + 6)) und116 q1
  have h2 := eqI3 d (fun j => f (i * 6 + j)) (fun j => g (i * 6 + j)) ((tbV 48 f).toArray.extract (i * 6) (i * 6 + 6)) ((tbV 48 g).toArray.extract (i * 6) (i * 6 + 6)) w (List.range 6) (fun j hj => ⟨hx f j (List.mem_range.1 hj), hx g j (List.mem_range.1 hj)⟩)
  have hc3 : Tryz.prog.cellsOf 3 = 1 := by kernel_rfl
  rw [hc3, h2] at h1
  simp only [Op.eqItems, Sem.run_bind, hp, Result.andThen_ok, h1, List.all_cons]
  cases hc : ((List.range 6).all fun j => f (i * 6 + j) == g (i * 6 + j)) with
  | true => simpa using ih
  | false => simp
theorem all48 (f : Nat → Int) : ((List.range 8).all fun i => (List.range 6).all fun j => f (i * 6 + j) == 0) = alN (fun p => f p == 0) 48 := by
 rw [Bool.eq_iff_iff, alN_iff, List.all_eq_true]
 simp only [List.all_eq_true, List.mem_range]
 constructor
 · intro h p hp
   have := h (p / 6) (by omega) (p % 6) (by omega)
   rwa [show p / 6 * 6 + p % 6 = p by omega] at this
 · intro h i hi j hj
   exact h _ (by omega)
theorem eq48 (f : Nat → Int) (x y : Operand) : RunIs Tryz.prog (do eqGuard .eql 117 x y (.agg (tbV 48 f).toArray) (.agg (tbV 48 fun _ => 0).toArray); binOp .eql 117 (.agg (tbV 48 f).toArray) (.agg (tbV 48 fun _ => 0).toArray)) (.bool (alN (fun p => f p == 0) 48)) := fun w => by
 have hm : Tryz.prog.eqGuardType Tryz.prog.depth 117 = false := by kernel_rfl
 obtain ⟨i0, z, q1, _⟩ := (env.tok 116 _ rfl).row
 have h1 := run_equalIn_array (P := Tryz.prog) w 9999 (tbV 48 f).toArray (tbV 48 fun _ => 0).toArray und117 q1
 have h2 := eqI116 9997 f (fun _ => 0) w (List.range 8) (fun i hi => List.mem_range.1 hi)
 have hc3 : Tryz.prog.cellsOf 116 = 6 := by kernel_rfl
 rw [hc3, h2, all48] at h1
 have h0 := run_eqGuard_agg (P := Tryz.prog) w .eql 117 x y (tbV 48 f).toArray (tbV 48 fun _ => 0).toArray hm
 have h1' : (Op.equalIn 10000 117 (Value.agg (tbV 48 f).toArray) (Value.agg (tbV 48 fun _ => 0).toArray)).run Tryz.prog w = _ := h1
 simp only [Sem.run_bind, h0, Result.andThen_ok, run_eql_struct, h1']
theorem tbS_at (n : Nat) (f : Nat → Int) (q : Nat) : (tbS n f)[q]? = if q < n then some (.v (iv (f q))) else none := by
 by_cases h : q < n
 · simp [tbS, h]
 · rw [if_neg h, List.getElem?_eq_none (by rw [tbS_len]; omega)]
theorem tbS_congr {n : Nat} {f g : Nat → Int} (h : ∀ q, q < n → f q = g q) : tbS n f = tbS n g := by
 apply List.ext_getElem?
 intro q
 rw [tbS_at, tbS_at]
 by_cases hq : q < n
 · rw [if_pos hq, if_pos hq, h q hq]
 · rw [if_neg hq, if_neg hq]
theorem tbS_blit {n : Nat} (f : Nat → Int) (xs : List Int) {o : Nat} (h : o + xs.length ≤ n) :
 (tbS n f).take o ++ (xs.map iv).map .v ++ (tbS n f).drop (o + xs.length) = tbS n (fun q => if o ≤ q ∧ q < o + xs.length then xs.getD (q - o) 0 else f q) := by
 apply List.ext_getElem?
 intro q
 rw [tbS_at, List.append_assoc, List.getElem?_append, List.length_take, tbS_len, Nat.min_eq_left (by omega)]
 by_cases h1 : q < o
 · rw [if_pos h1, List.getElem?_take, if_pos h1, tbS_at]
   rw [if_pos (by omega), if_pos (by omega), if_neg (by omega)]
 · rw [if_neg h1, List.getElem?_append, List.length_map, List.length_map]
   by_cases h2 : q - o < xs.length
   · rw [if_pos h2, if_pos (by omega), if_pos (by omega), List.map_map, List.getElem?_map, List.getD_eq_getElem?_getD, List.getElem?_eq_getElem h2]; rfl
   · rw [if_neg h2, List.getElem?_drop, tbS_at, show o + xs.length + (q - o - xs.length) = q by omega]
     by_cases h3 : q < n
     · rw [if_pos h3, if_pos h3, if_neg (by omega)]
     · rw [if_neg h3, if_neg h3]
end Go.Proofs.YtkbfcofifhngfaaGreat
namespace Go.Proofs.YtkbfcofifhngfaaGreat
open Go Tx Go.RowKit
theorem any_take {α : Type} {p : α → Bool} {L : List α} {k : Nat} {x : α} (h : L[k]? = some x) : (L.take (k + 1)).any p = ((L.take k).any p || p x) := by
 rw [List.take_add_one, h]; simp
theorem any_yes {α : Type} {p : α → Bool} {L : List α} {k : Nat} {x : α} (h : L[k]? = some x) (hx : p x = true) : L.any p = true := List.any_eq_true.2 ⟨x, List.mem_of_getElem? h, hx⟩
theorem cl131_ok (b : Nat) (l : List Int) (o : Option Addr) (c : Nat) (j : Int) (w : World) (hb : w.heap[b]? = some (.cells #[.slice o l.length c] 36 (0, 0))) (hrd : Rd 1 iF (.slice o l.length c) l w) (hl : l.length ≤ 1000000) :
 Calls Tryz.prog 131 #[iv j, .pointer (some ⟨b, 0, none⟩)] w fun e w' => e = .returned (.bool (l.contains j)) ∧ Below w.heap.size w w' := by
 have c127 := fun (w' : World) (hw : Below w.heap.size w w') => Contains_ok l o c j w' (hrd.below hw) hl
 have e0 := fun (w' : World) (hw : Below w.heap.size w w') => cell_at (C := [.slice o l.length c]) (heap_below hb hw) (o := 0) (v := .slice o l.length c) rfl
 refine calls_val env mixed Tryz.func131 has131 Tryz.ntmps131 [iv j, .pointer (some ⟨b, 0, none⟩)] (by simp) ?_
 repeat'
  conv => whnf
  first
   |refine zD ?_
   |refine eL [.slice o l.length c] ⟨⟨rfl, fun w' hw' => e0 w' hw'⟩, ?_⟩
   |((with_reducible show CallEv _ _ 127 ..); refine callE (fun β w' hbw => c127 _ hbw) ?_)
 all_goals exact ⟨fun β => rfl, fun w' h => h⟩
theorem any106_ok (T : List Int) (o' : Option Addr) (c' : Nat) (b : Nat) (l : List Int) (o : Option Addr) (c : Nat) (w : World) (hT : Rd 1 iF (.slice o' T.length c') T w) (hTl : T.length ≤ 1000000) (hb : w.heap[b]? = some (.cells #[.slice o l.length c] 36 (0, 0))) (hrd : Rd 1 iF (.slice o l.length c) l w) (hl : l.length ≤ 1000000) :
 Calls Tryz.prog 106 #[.slice o' T.length c', .func (.func 131) #[] #[.pointer (some ⟨b, 0, none⟩)]] w fun e w' => e = .returned (.bool (T.any fun j => l.contains j)) ∧ Below w.heap.size w w' := by
 refine calls_val env mixed Tryz.func106 has106 Tryz.ntmps106 [.slice o' T.length c', .func (.func 131) #[] #[.pointer (some ⟨b, 0, none⟩)]] (by simp) ?_
 repeat'
  conv => whnf
  first
   |refine zD ?_
   |((with_reducible show CallEv _ _ 140 ..); refine callI env mixed 1000 [] Tryz.func140 has140 Tryz.ntmps140 (Nat.le_of_ble_eq_true rfl) rfl rfl rfl ?_)
 refine loopE (fun k : Nat => [(0, .v (.slice o' T.length c')), (1, .v (.func (.func 131) #[] #[.pointer (some ⟨b, 0, none⟩)])), (7, .v (iv T.length)), (8, .v (iv k))]) (fun _ => []) (fun k => k ≤ T.length ∧ ((T.take k).any fun j => l.contains j) = false) (fun k => T.length - k) 0 ⟨Nat.zero_le _, rfl⟩ ⟨rfl, rfl, rfl, rfl, trivial⟩ trivial (fun _ => ⟨rfl, rfl⟩) ?_
 intro k ⟨hk, hall⟩
 rcases Nat.lt_or_ge k T.length with hkl | hkl
 · obtain ⟨y, hy⟩ : ∃ b, T[k]? = some b := ⟨_, List.getElem?_eq_getElem hkl⟩
   obtain ⟨_, ad, rfl, _⟩ := hT.ptr (by omega)
   have e0 := fun (w' : World) hw' => rd_ati (hT.below (w' := w') hw') hy
   have c131 := fun (w' : World) (hw : Below w.heap.size w w') => cl131_ok b l o c y w' (heap_below hb hw) (hrd.below hw) hl
   have ht := any_take (p := fun j => l.contains j) hy
   rw [hall, Bool.false_or] at ht
   have hyes := any_yes (p := fun j => l.contains j) hy
   cases hc : l.contains y with
   | true =>
    rw [hc] at c131
    rw [hyes hc]
    repeat'
     conv => whnf
     first
      |refine zD ?_|refine zG ?_|refine splT ?_
      |(refine splD ?_ ?_ <;> intro hc <;> first|(exfalso; omega)|skip)
      |refine eL [iv y] ⟨⟨rfl, fun w' hw' => e0 w' hw'⟩, ?_⟩
      |((with_reducible show CallEv _ _ 131 ..); refine callE (fun β w' hbw => c131 _ hbw) ?_)
    all_goals exact ⟨fun β => rfl, fun w' h => h⟩
   | false =>
    rw [hc] at c131 ht
    repeat'
     conv => whnf
     first
      |refine zD ?_|refine zF ?_|refine zG ?_|refine splF ?_
      |(refine splD ?_ ?_ <;> intro hc <;> first|(exfalso; omega)|skip)
      |refine eL [iv y] ⟨⟨rfl, fun w' hw' => e0 w' hw'⟩, ?_⟩
      |((with_reducible show CallEv _ _ 131 ..); refine callE (fun β w' hbw => c131 _ hbw) ?_)
    all_goals exact ⟨k + 1, ⟨by omega, ht⟩, by omega, Ent.weak rfl ⟨rfl, rfl, rfl, rfl, trivial⟩ trivial fun _ h => h⟩
 · rw [List.take_of_length_le hkl] at hall
   rw [hall]
   repeat'
    conv => whnf
    first
     |(refine splD ?_ ?_ <;> intro hc <;> first|(exfalso; omega)|skip)
   all_goals exact ⟨fun β => rfl, fun w' h => h⟩
def timeP (s : SD) (t : List Int × Int) : Int := min t.2 s.sl
def teP (s : SD) (l : List Int) (t : List Int × Int) : Int := bif t.1.any (fun j => l.contains j) then timeP s t else 0
def timesP (s : SD) (l : List Int) : Int := (s.T.map (teP s l)).sum
theorem tea_at {s : SD} (hv : scOk s = true) {t : List Int × Int} (ht : t ∈ s.T) : 0 ≤ timeP s t ∧ timeP s t ≤ (40 : Nat) ∧ 0 ≤ t.2 ∧ t.2 ≤ 40 := by
 obtain ⟨hv1, hv2, hv3, hv4, hv5, hv6, hv7⟩ := scOk_iff.1 hv
 have := List.all_eq_true.1 hv7 t ht
 unfold teB at this
 simp only [Bool.and_eq_true] at this
 have := inB_iff.1 this.2
 unfold timeP
 omega
theorem teP_bd {s : SD} (hv : scOk s = true) (l : List Int) {t : List Int × Int} (ht : t ∈ s.T) : 0 ≤ teP s l t ∧ teP s l t ≤ (40 : Nat) := by
 have := tea_at hv ht
 unfold teP
 cases t.1.any (fun j => l.contains j) with
 | true => exact ⟨this.1, this.2.1⟩
 | false => exact ⟨by simp, by simp⟩
theorem times_ok (s : Sc) (l : List Int) (o : Option Addr) (c : Nat) (w : World) (h : ScIn s w) (hB : ScB s) (hv : scOk s.d = true) (hrd : Rd 1 iF (.slice o l.length c) l w) (hl : l.length ≤ 1000000) :
 Calls Tryz.prog 94 #[s.v, .slice o l.length c] w fun e w' => e = .returned (iv (timesP s.d l)) ∧ Below w.heap.size w w' := by
 have hbd := fun (t : List Int × Int) (ht : t ∈ s.d.T) => teP_bd hv l ht
 have htea := fun (t : List Int × Int) (ht : t ∈ s.d.T) => tea_at hv ht
 obtain ⟨hv1, hv2, hv3, hv4, hv5, hv6, hv7⟩ := scOk_iff.1 hv
 have hb4 := hB.h
 obtain ⟨hg, hr, ht, hh⟩ := h
 obtain ⟨sl, ro, su, go, gc, G, to, tc, T⟩ := s
 unfold timesP
 unfold Sc.d at hbd htea ⊢
 dsimp only [Sc.d] at hbd htea hv1 hv5 hv3 ht hh hb4 ⊢
 rw [List.length_map] at hv5
 refine calls_val env mixed Tryz.func94 has94 Tryz.ntmps94 [.agg #[iv sl, iv ro, iv su, .slice go G.length gc, .slice to T.length tc], .slice o l.length c] (by simp) ?_
 repeat'
  conv => whnf
  first
   |refine zB ?_
 refine loopN 2 (fun k : Nat => [(2, .ptr 0 0), (3, .ptr 1 0), (4, .v (iv (((T.map Tc.d).take k).map (teP ⟨sl, ro, su, G.map Rw.xs, T.map Tc.d⟩ l)).sum)), (8, .v (.slice to T.length tc)), (9, .v (iv T.length)), (10, .v (iv k))]) (fun _ => [(0, .cells [.v (iv sl), .v (iv ro), .v (iv su), .v (.slice go G.length gc), .v (.slice to T.length tc)] 34), (1, .cells [.v (.slice o l.length c)] 36)]) (fun k => k ≤ T.length) (fun k => T.length - k) 0 (Nat.zero_le _) ⟨rfl, rfl, rfl, rfl, rfl, rfl, trivial⟩ ⟨rfl, rfl, trivial⟩ (fun _ _ => ⟨rfl, rfl⟩) ?_
 intro k hk
 have h1 := sum_bt (f := teP ⟨sl, ro, su, G.map Rw.xs, T.map Tc.d⟩ l) hbd k
 rw [List.length_map] at h1
 rcases Nat.lt_or_ge k T.length with hkl | hkl
 · obtain ⟨⟨ro', rc, xs, hh'⟩, hx⟩ : ∃ b, T[k]? = some b := ⟨_, List.getElem?_eq_getElem hkl⟩
   obtain ⟨_, ad, rfl, _⟩ := ht.ptr (by omega)
   have e0 := fun (w' : World) hw' => rd_ati (ht.below (w' := w') hw') hx
   have hrr := hh _ (List.mem_of_getElem? hx)
   have hrb := hb4 _ (List.mem_of_getElem? hx)
   change Rd 1 iF (.slice ro' xs.length rc) xs w at hrr
   change xs.length ≤ 1000000 at hrb
   have hmx : (T.map Tc.d)[k]? = some (xs, hh') := by rw [List.getElem?_map, hx]; rfl
   have h3 := sum_tk (f := teP ⟨sl, ro, su, G.map Rw.xs, T.map Tc.d⟩ l) hmx
   have h5 := htea _ (List.mem_of_getElem? hmx)
   have c106 := fun (b : Nat) (w' : World) (hw : Below w.heap.size w w') (hb : w'.heap[b]? = some (.cells #[.slice o l.length c] 36 (0, 0))) => any106_ok xs ro' rc b l o c w' (hrr.below hw) hrb hb (hrd.below hw) hl
   have hq : teP ⟨sl, ro, su, G.map Rw.xs, T.map Tc.d⟩ l (xs, hh') = bif xs.any (fun j => l.contains j) then min hh' sl else 0 := rfl
   rw [hq] at h3
   unfold timeP at h5
   dsimp only at h5
   generalize (((T.map Tc.d).take k).map (teP ⟨sl, ro, su, G.map Rw.xs, T.map Tc.d⟩ l)).sum = S at *
   have hmi := imin_eq hh' sl
   have hmb : 0 ≤ imin hh' sl ∧ imin hh' sl ≤ 40 := by rw [hmi]; omega
   rw [← hmi] at h3
   cases hc : xs.any (fun j => l.contains j) with
   | true =>
    rw [hc] at c106 h3
    rw [cond_true] at h3
    repeat'
     conv => whnf
     first
      |refine zB ?_|refine zC ?_|refine zD ?_|refine zF ?_|refine zG ?_|refine splT ?_
      |(refine splD ?_ ?_ <;> intro hc <;> first|(exfalso; omega)|skip)
      |refine eL [.slice ro' xs.length rc, iv hh'] ⟨⟨rfl, fun w' hw' => e0 w' hw'⟩, ?_⟩
      |((with_reducible show CallEv _ _ 106 ..); refine callM [1] (fun β w' hbk hbw => c106 _ _ (by repeat (first | exact hbw | replace hbw := hbw.1)) (hbk 1 (by simp) _ rfl)) ?_)
      |((with_reducible show CallEv _ _ 128 ..); refine callI env mixed 1000 [2, 3, 4, 8, 9, 10, 18] Tryz.func128 has128 Tryz.ntmps128 (Nat.le_of_ble_eq_true rfl) rfl rfl rfl ?_)
    all_goals exact ⟨k + 1, by omega, by omega, Ent.weak rfl ⟨rfl, rfl, by rw [h3]; rfl, rfl, rfl, rfl, trivial⟩ ⟨rfl, rfl, trivial⟩ fun _ h => h⟩
   | false =>
    rw [hc] at c106 h3
    rw [cond_false, Int.add_zero] at h3
    repeat'
     conv => whnf
     first
      |refine zB ?_|refine zC ?_|refine zD ?_|refine zF ?_|refine zG ?_|refine splF ?_
      |(refine splD ?_ ?_ <;> intro hc <;> first|(exfalso; omega)|skip)
      |refine eL [.slice ro' xs.length rc, iv hh'] ⟨⟨rfl, fun w' hw' => e0 w' hw'⟩, ?_⟩
      |((with_reducible show CallEv _ _ 106 ..); refine callM [1] (fun β w' hbk hbw => c106 _ _ (by repeat (first | exact hbw | replace hbw := hbw.1)) (hbk 1 (by simp) _ rfl)) ?_)
    all_goals exact ⟨k + 1, by omega, by omega, Ent.weak rfl ⟨rfl, rfl, by rw [h3]; rfl, rfl, rfl, rfl, trivial⟩ ⟨rfl, rfl, trivial⟩ fun _ h => h⟩
 · obtain rfl : k = T.length := by omega
   rw [show (T.map Tc.d).take T.length = T.map Tc.d from List.take_of_length_le (by simp)]
   repeat'
    conv => whnf
    first
     |(refine splD ?_ ?_ <;> intro hc <;> first|(exfalso; omega)|skip)
   all_goals exact ⟨fun β => rfl, fun w' h => h⟩
def cellG (C : List (List Int)) (p : Nat) : Int := ((C[p / 6]?).getD []).getD (p % 6) 0
def b2i (b : Bool) : Int := bif b then 1 else 0
def cntP (X : List Ln) (p : Nat) : Int := (X.map fun x => b2i (decide (x.g = ((p / 6 : Nat) : Int) ∧ x.j = ((p % 6 : Nat) : Int)))).sum
def cntT (X : List Ln) (t : Nat) : Int := (X.map fun x => b2i (decide (x.t = (t : Int)))).sum
theorem b2i_bd (b : Bool) : 0 ≤ b2i b ∧ b2i b ≤ 1 := by cases b <;> decide
theorem sum_bd {α : Type} (f : α → Bool) : ∀ l : List α, 0 ≤ (l.map fun x => b2i (f x)).sum ∧ (l.map fun x => b2i (f x)).sum ≤ l.length
 | [] => by simp
 | x :: l => by
  have := sum_bd f l
  have h := b2i_bd (f x)
  simp only [List.map_cons, List.sum_cons, List.length_cons]
  omega
theorem sum_take {f : Ln → Int} {X : List Ln} {k : Nat} {x : Ln} (h : X[k]? = some x) : ((X.take (k + 1)).map f).sum = ((X.take k).map f).sum + f x := by
 rw [List.take_add_one, h]; simp
def fitB (s : SD) (X : List (List Ln)) : Bool := scOk s && (decide ((X.length : Int) = s.sl) && (X.all (sltB s) && (alN (fun t => decide (cntT X.flatten t ≤ (s.T.getD t ([], 0)).2)) s.T.length && alN (fun p => cellG s.G p - cntP X.flatten p == 0) 48)))
theorem cellG_step {C : List (List Int)} {k : Nat} {xs : List Int} (h : C[k]? = some xs) (hx : xs.length ≤ 6) (hk : k < 8) :
 (tbS 48 (cellG (C.take k))).take (k * 6) ++ (xs.map iv).map .v ++ (tbS 48 (cellG (C.take k))).drop (k * 6 + xs.length) = tbS 48 (cellG (C.take (k + 1))) := by
 have hkl : k < C.length := (List.getElem?_eq_some_iff.1 h).1
 rw [tbS_blit _ _ (by omega)]
 refine tbS_congr fun q hq => ?_
 unfold cellG
 rw [List.getElem?_take, List.getElem?_take]
 by_cases h1 : k * 6 ≤ q ∧ q < k * 6 + xs.length
 · rw [if_pos h1, if_pos (by omega), show q / 6 = k by omega, h, show q % 6 = q - k * 6 by omega]; rfl
 · rw [if_neg h1]
   by_cases h2 : q / 6 < k
   · rw [if_pos h2, if_pos (by omega)]
   · rw [if_neg h2]
     by_cases h3 : q / 6 < k + 1
     · rw [if_pos h3, show q / 6 = k by omega, h]
       show (0 : Int) = xs.getD (q % 6) 0
       rw [List.getD_eq_getElem?_getD, List.getElem?_eq_none (by omega)]; rfl
     · rw [if_neg h3]
theorem fIv (A : List Int) : A.flatMap iF = A.map iv := by
 induction A with
 | nil => rfl
 | cons a l ih => rw [List.flatMap_cons, List.map_cons, ih]; rfl
theorem sltB_les {s : SD} {X : List (List Ln)} (h : X.all (sltB s) = true) {x : Ln} (hx : x ∈ X.flatten) : lesB s x = true := by
 obtain ⟨L, hL, hxL⟩ := List.mem_flatten.1 hx
 have := List.all_eq_true.1 h L hL
 unfold sltB at this
 simp only [Bool.and_eq_true] at this
 exact List.all_eq_true.1 this.2.1 x hxL
theorem lesB_bd {s : SD} {x : Ln} (h : lesB s x = true) : (0 ≤ x.g ∧ x.g ≤ s.G.length - 1) ∧ (0 ≤ x.j ∧ x.j ≤ s.su - 1) ∧ (0 ≤ x.t ∧ x.t ≤ s.T.length - 1) := by
 unfold lesB at h
 simp only [Bool.and_eq_true, inB_iff] at h
 exact ⟨h.1, h.2.1, h.2.2.1⟩
theorem cntP_step {X : List Ln} {k : Nat} {x : Ln} (h : X[k]? = some x) {a b : Nat} (ha : x.g = a) (hb : x.j = b) (hb6 : b < 6) (f : Nat → Int) :
 updF (fun p => f p - cntP (X.take k) p) (a * 6 + b) (f (a * 6 + b) - cntP (X.take k) (a * 6 + b) - 1) = fun p => f p - cntP (X.take (k + 1)) p := by
 funext p
 unfold updF cntP
 rw [sum_take h]
 by_cases hp : p = a * 6 + b
 · subst hp
   rw [if_pos rfl, show b2i (decide (x.g = (((a * 6 + b) / 6 : Nat) : Int) ∧ x.j = (((a * 6 + b) % 6 : Nat) : Int))) = 1 from by rw [decide_eq_true ⟨by omega, by omega⟩]; rfl]
   omega
 · rw [if_neg hp, show b2i (decide (x.g = ((p / 6 : Nat) : Int) ∧ x.j = ((p % 6 : Nat) : Int))) = 0 from by rw [decide_eq_false (fun h => by omega)]; rfl]
   dsimp only
   omega
theorem cntT_step {X : List Ln} {k : Nat} {x : Ln} (h : X[k]? = some x) {a : Nat} (ha : x.t = a) :
 updF (fun p => cntT (X.take k) p) a (cntT (X.take k) a + 1) = fun p => cntT (X.take (k + 1)) p := by
 funext p
 unfold updF cntT
 rw [sum_take h]
 by_cases hp : p = a
 · subst hp
   rw [if_pos rfl, show b2i (decide (x.t = (p : Int))) = 1 from by rw [decide_eq_true ha]; rfl]
 · rw [if_neg hp, show b2i (decide (x.t = (p : Int))) = 0 from by rw [decide_eq_false (fun h => by omega)]; rfl]
   dsimp only
   omega
theorem dropT {n p N : Nat} {f : Nat → Int} {K : List SV → Prop} (hn : n = p) (h : p < N) (hK : K (.v (iv (f p)) :: (tbS N f).drop (p + 1))) : dropK n (tbS N f) K := by
 subst hn; exact dropK_to (tbS_drop f h) hK
theorem splT48 {n p N : Nat} {f : Nat → Int} {v : Int} {K : List SV → Prop} (hn : n = p) (h : p < N) (hK : K (tbS N (updF f p v))) : splK n (tbS N f) [.v (iv v)] K := by
 subst hn; exact splK_to (by rw [tbS_len]; exact h) (tbS_set f v h) hK
theorem tbV_one {n p N : Nat} (hn : n = p) (f : Nat → Int) (h : p < N) : ∀ j v, [iv (f p)][j]? = some v → (tbV N f)[n + j]? = some v := fun j v hj => by
 match j, hj with
 | 0, hj => cases hj; subst hn; exact tbV_at f h
theorem tbV_setE {n o p : Nat} (f : Nat → Int) (v : Int) (ho : o = p) (h : p < n) : tbV n (updF f p v) = (tbV n f).take o ++ [iv v] ++ (tbV n f).drop (o + 1) := by
 subst ho; exact (tbV_set f v h).symm
theorem mk0 (n : Nat) : (tbV n fun _ => 0) = (List.replicate n [iv 0]).flatten := by
 induction n with
 | zero => rfl
 | succ n ih =>
  rw [tbV, List.range_succ, List.map_append, List.replicate_succ', List.flatten_append, ← ih]; rfl
theorem cellG_bd {s : Sc} (h : scOk s.d = true) (p : Nat) : 0 ≤ cellG (s.G.map Rw.xs) p ∧ cellG (s.G.map Rw.xs) p ≤ 20 := by
 obtain ⟨hv1, hv2, hv3, hv4, hv5, hv6, hv7⟩ := scOk_iff.1 h
 change (s.G.map Rw.xs).all (grB s.su) = true at hv6
 unfold cellG
 cases hx : (s.G.map Rw.xs)[p / 6]? with
 | none => simp
 | some xs =>
  have := List.all_eq_true.1 hv6 xs (List.mem_of_getElem? hx)
  unfold grB evB at this
  simp only [Bool.and_eq_true, List.all_eq_true] at this
  rw [Option.getD_some, List.getD_eq_getElem?_getD]
  cases hy : xs[p % 6]? with
  | none => simp
  | some v =>
   have := inB_iff.1 (this.2 v (List.mem_of_getElem? hy))
   simpa using this
theorem Fits_ok (s : Sc) (S : List Lr) (o : Option Addr) (c : Nat) (w : World) (h : ScIn s w) (hB : ScB s) (hT : TbL o c S w) (hl : S.length ≤ 45) (hrl : ∀ r ∈ S, r.L.length ≤ 10) (hc : ∀ r ∈ S, r.L.length ≤ r.c ∧ (r.L = [] → r.o = none ∧ r.c = 0)) :
 Calls Tryz.prog 28 #[s.v, .slice o S.length c] w fun e w' => e = .returned (.bool (fitB s.d (S.map Lr.L))) ∧ Below w.heap.size w w' := by
 have c37 := fun (w' : World) (hw : Below w.heap.size w w') => valid_ok s w' (h.below hw) hB
 have c69 := fun (w' : World) (hw : Below w.heap.size w w') => (Concat_ok o c S w' (hT.below hw) hl hrl (fun r hr => (hc r hr).2)).mono fun e w2 ⟨y, h1, h2, h3⟩ => (⟨⟨y, rd_ys (St.now h3)⟩, h1, h2, h3⟩ : ∃ y : YS (flL S), e = Ending.returned (sV (flL S).length y.1) ∧ Below w'.heap.size w' w2 ∧ St w'.heap.size (Rd 3 Ln.cs (sV (flL S).length y.1) (flL S)) w2)
 unfold fitB
 cases hv : scOk s.d with
 | false =>
  rw [hv] at c37
  obtain ⟨sl, ro, su, go, gc, G, to, tc, T⟩ := s
  refine calls_val env mixed Tryz.func28 has28 Tryz.ntmps28 [.agg #[iv sl, iv ro, iv su, .slice go G.length gc, .slice to T.length tc], .slice o S.length c] (by simp) ?_
  repeat'
   conv => whnf
   first
    |refine zD ?_|refine splT ?_
    |((with_reducible show CallEv _ _ 37 ..); refine callE (fun β w' hbw => c37 _ hbw) ?_)
  all_goals exact ⟨fun β => rfl, fun w' h => h⟩
 | true =>
  rw [hv] at c37
  have hs : -1000000 ≤ s.su ∧ s.su ≤ 1000000 := by
   have h1 : 1 ≤ s.su ∧ s.su ≤ 6 := (scOk_iff.1 hv).2.2.1
   omega
  have c67 := fun (w' : World) (hw : Below w.heap.size w w') => all67_ok s S o c w' (h.below hw) hB hs (hT.below hw) (by omega) (fun r hr => by have := hrl r hr; omega) (fun r hr => (hc r hr).1)
  by_cases hsl : (S.length : Int) = s.d.sl
  · rw [List.length_map, decide_eq_true hsl]
    cases ha : (S.map Lr.L).all (sltB s.d) with
    | false =>
     rw [ha] at c67
     obtain ⟨sl, ro, su, go, gc, G, to, tc, T⟩ := s
     dsimp only [Sc.d] at hsl
     refine calls_val env mixed Tryz.func28 has28 Tryz.ntmps28 [.agg #[iv sl, iv ro, iv su, .slice go G.length gc, .slice to T.length tc], .slice o S.length c] (by simp) ?_
     repeat'
      conv => whnf
      first
       |refine zB ?_|refine zD ?_|refine splT ?_|refine splF ?_|refine splNot ?_
       |(refine splD ?_ ?_ <;> intro hc <;> first|(exfalso; omega)|skip)
       |((with_reducible show CallEv _ _ 37 ..); refine callE (fun β w' hbw => c37 _ hbw) ?_)
       |refine mkMv (.agg #[iv sl, iv ro, iv su, .slice go G.length gc, .slice to T.length tc]) rfl (fun _ => rfl) rfl ?_
       |((with_reducible show CallEv _ _ 67 ..); refine callE (fun β w' hbw => c67 _ hbw) ?_)
     all_goals exact ⟨fun β => rfl, fun w' h => h⟩
    | true =>
     rw [ha] at c67
     obtain ⟨hv1, hv2, hv3, hv4, hv5, hv6, hv7⟩ := scOk_iff.1 hv
     have hles := fun (x : Ln) (hx : x ∈ (S.map Lr.L).flatten) => lesB_bd (sltB_les ha hx)
     have hflat : flL S = (S.map Lr.L).flatten := rfl
     rw [← hflat] at hles ⊢
     have hM : (flL S).length ≤ 450 := by
      have := flL_le (m := 10) (k := S.length) hrl
      rw [List.take_length] at this
      omega
     obtain ⟨hg, hr, ht, hh⟩ := h
     obtain ⟨sl, ro, su, go, gc, G, to, tc, T⟩ := s
     unfold Sc.d at hv1 hv2 hv3 hv4 hv5 hv6 hv7 hles ⊢
     dsimp only [Sc.d] at hsl
     dsimp only at hv1 hv2 hv3 hv4 hv5 hv6 hv7 hles hg hr ht hh c37 c67 c69 ⊢
     rw [List.length_map] at hv4 hv5
     simp only [List.length_map] at hles ⊢
     refine calls_val env mixed Tryz.func28 has28 Tryz.ntmps28 [.agg #[iv sl, iv ro, iv su, .slice go G.length gc, .slice to T.length tc], .slice o S.length c] (by simp) ?_
     repeat'
      conv => whnf
      first
       |refine zB ?_|refine zD ?_|refine splF ?_|refine splNot ?_
       |(refine splD ?_ ?_ <;> intro hc <;> first|(exfalso; omega)|skip)
       |((with_reducible show CallEv _ _ 37 ..); refine callE (fun β w' hbw => c37 _ hbw) ?_)
       |refine mkMv (.agg #[iv sl, iv ro, iv su, .slice go G.length gc, .slice to T.length tc]) rfl (fun _ => rfl) rfl ?_
       |((with_reducible show CallEv _ _ 67 ..); refine callE (fun β w' hbw => c67 _ hbw) ?_)
     conv => whnf
     refine loopN 2 (fun k : Nat => [(1, .v (.slice o S.length c)), (2, .ptr 0 0), (5, .ptr 1 0), (31, .v (.slice go G.length gc)), (32, .v (iv G.length)), (33, .v (iv k))]) (fun k => [(0, .cells [.v (iv sl), .v (iv ro), .v (iv su), .v (.slice go G.length gc), .v (.slice to T.length tc)] 34), (1, .cells (tbS 48 (cellG ((G.map Rw.xs).take k))) 117)]) (fun k => k ≤ G.length) (fun k => G.length - k) 0 (Nat.zero_le _) ⟨rfl, rfl, rfl, rfl, rfl, rfl, trivial⟩ ⟨rfl, rfl, trivial⟩ (fun k _ => ⟨rfl, by show (Nat.blt 0 2 && _ && (Nat.blt 1 2 && SV.lts 2 (tbS 48 _) && _)) = true; rw [tbS_lt]; rfl⟩) ?_
     · intro k hk
       rcases Nat.lt_or_ge k G.length with hkl | hkl
       · obtain ⟨⟨ro', rc, xs⟩, hx⟩ : ∃ b, G[k]? = some b := ⟨_, List.getElem?_eq_getElem hkl⟩
         obtain ⟨_, ad, rfl, _⟩ := hg.ptr (by omega)
         have e0 := fun (w' : World) hw' => rd_ati (hg.below (w' := w') hw') hx
         have hrr := hr _ (List.mem_of_getElem? hx)
         have hmx : (G.map Rw.xs)[k]? = some xs := by rw [List.getElem?_map, hx]; rfl
         have hgr := List.all_eq_true.1 hv6 xs (List.mem_of_getElem? hmx)
         unfold grB at hgr
         simp only [Bool.and_eq_true, decide_eq_true_eq] at hgr
         have hxl : xs.length ≤ 6 := by omega
         change Rd 1 iF (.slice ro' xs.length rc) xs w at hrr
         have hst := cellG_step hmx hxl (by omega)
         have hso : ro' = none → xs.length = 0 := fun h => by
          subst h
          rcases hrr with ⟨_, h⟩ | ⟨ad, d, h, _⟩
          · rw [h]; rfl
          · cases h
         have hcp : ∀ ad, ro' = some ad → ∀ w', Below w.heap.size w w' → ∀ j v, (xs.map iv)[j]? = some v → w'.cell? (ad.add j) = some v := fun ad h w' hw' j v hj => by
          subst h
          have := Rd.ext (f := iF) (sz := 1) (fun _ => rfl) (hrr.below hw')
          rw [fIv] at this
          exact this j v hj
         repeat'
          conv => whnf
          first
           |refine zF ?_|refine zG ?_
           |(refine splD ?_ ?_ <;> intro hc <;> first|(exfalso; omega)|skip)
           |refine eL [.slice ro' xs.length rc] ⟨⟨rfl, fun w' hw' => e0 w' hw'⟩, ?_⟩
           |refine copyE env (xs.map iv) rfl rfl rfl rfl rfl rfl (by omega) (by simp) (by rw [tbS_len]; show 0 + k * 6 + xs.length ≤ 48; omega) (fun v hv => by obtain ⟨a, _, rfl⟩ := List.mem_map.1 hv; rfl) hso hcp (tbS 48 (cellG ((G.map Rw.xs).take (k + 1)))) (by show (tbS 48 _).take (0 + k * 6) ++ _ ++ (tbS 48 _).drop (0 + k * 6 + _) = _; rw [Nat.zero_add]; exact hst) rfl (tbS_lt _ _ _) ?_
         all_goals exact ⟨k + 1, by omega, by omega, Ent.weak rfl ⟨rfl, rfl, rfl, rfl, rfl, rfl, trivial⟩ ⟨rfl, rfl, trivial⟩ fun _ h => h⟩
       · obtain rfl : k = G.length := by omega
         rw [List.take_of_length_le (by rw [List.length_map]; exact Nat.le_refl _)]
         generalize hCG : cellG (G.map Rw.xs) = CG at *
         repeat'
          conv => whnf
          first
           |refine zB ?_|refine zD ?_
           |(refine splD ?_ ?_ <;> intro hc <;> first|(exfalso; omega)|skip)
           |refine mkO env 2 T.length (tbV T.length fun _ => 0) rfl rfl rfl (by decide) rfl (by omega) (by decide) (mk0 _) rfl ?_
           |((with_reducible show CallEv _ _ 69 ..); refine callF [] (fun y : YS (flL S) => sV (flL S).length y.1) (fun y => St w.heap.size (Rd 3 Ln.cs (sV (flL S).length y.1) (flL S))) (fun β w' _ hbw => famS (by repeat (first | exact hbw | replace hbw := hbw.1)) (c69 w' (by repeat (first | exact hbw | replace hbw := hbw.1)))) ?_; intro y)
         conv => whnf
         refine loopN 4 (fun k : Nat => [(2, .ptr 0 0), (5, .ptr 1 0), (8, .os 2 3 T.length), (49, .v (sV (flL S).length y.1)), (50, .v (iv (flL S).length)), (51, .v (iv k))]) (fun k => [(0, .cells [.v (iv sl), .v (iv ro), .v (iv su), .v (.slice go G.length gc), .v (.slice to T.length tc)] 34), (1, .cells (tbS 48 fun p => CG p - cntP ((flL S).take k) p) 117), (2, .own 3 T.length 1 (tbV T.length fun t => cntT ((flL S).take k) t) 3)]) (fun k => k ≤ (flL S).length) (fun k => (flL S).length - k) 0 (Nat.zero_le _) ⟨rfl, rfl, rfl, rfl, rfl, rfl, trivial⟩ ⟨rfl, by rw [show (fun p => CG p - cntP ((flL S).take 0) p) = CG from funext fun p => Int.sub_zero _]; rfl, rfl, trivial⟩ (fun k _ => ⟨rfl, by show (Nat.blt 0 4 && _ && (Nat.blt 1 4 && SV.lts 4 (tbS 48 _) && _)) = true; rw [tbS_lt]; rfl⟩) ?_
         intro k hk
         rcases Nat.lt_or_ge k (flL S).length with hkl | hkl
         · obtain ⟨x, hx⟩ : ∃ b, (flL S)[k]? = some b := ⟨_, List.getElem?_eq_getElem hkl⟩
           have hbd := hles x (List.mem_of_getElem? hx)
           obtain ⟨⟨a, ha'⟩, ⟨b, hb'⟩, ⟨d, hd'⟩⟩ : (∃ a : Nat, x.g = a) ∧ (∃ b : Nat, x.j = b) ∧ (∃ d : Nat, x.t = d) := ⟨Int.eq_ofNat_of_zero_le hbd.1.1, Int.eq_ofNat_of_zero_le hbd.2.1.1, Int.eq_ofNat_of_zero_le hbd.2.2.1⟩
           have hP := cntP_step hx ha' hb' (by omega) CG
           have hTT := cntT_step hx hd'
           have hb1 := sum_bd (fun x : Ln => decide (x.g = (((a * 6 + b) / 6 : Nat) : Int) ∧ x.j = (((a * 6 + b) % 6 : Nat) : Int))) ((flL S).take k)
           have hb2 := sum_bd (fun x : Ln => decide (x.t = (d : Int))) ((flL S).take k)
           have hlt := List.length_take_le k (flL S)
           have hcg := hCG ▸ cellG_bd (s := ⟨sl, ro, su, go, gc, G, to, tc, T⟩) hv (a * 6 + b)
           change 0 ≤ cntP ((flL S).take k) (a * 6 + b) ∧ cntP ((flL S).take k) (a * 6 + b) ≤ _ at hb1
           change 0 ≤ cntT ((flL S).take k) d ∧ cntT ((flL S).take k) d ≤ _ at hb2
           generalize hf1 : (fun p => CG p - cntP ((flL S).take k) p) = f1 at *
           generalize hf2 : (fun t => cntT ((flL S).take k) t) = f2 at *
           have hf1' : f1 (a * 6 + b) = CG (a * 6 + b) - cntP ((flL S).take k) (a * 6 + b) := by rw [← hf1]
           have hf2' : f2 d = cntT ((flL S).take k) d := by rw [← hf2]
           rw [← hf1'] at hP
           rw [← hf2'] at hTT
           obtain ⟨xg, xj, xt⟩ := x
           dsimp only at ha' hb' hd' hbd
           subst ha'; subst hb'; subst hd'
           obtain ⟨⟨yo, yc⟩, hy1⟩ := y
           obtain ⟨ad, rfl⟩ : ∃ ad, yo = some ad := hy1.resolve_left fun h => by rw [h] at hx; cases hx
           have e1 := fun (w' : World) (h : St w.heap.size (Rd 3 Ln.cs (.slice (some ad) (flL S).length yc) (flL S)) w') => rd_ati (St.now h) hx
           repeat'
            conv => whnf
            first
             |refine zA ?_|refine zB ?_|refine zC ?_|refine zF ?_|refine zG ?_
             |(refine splD ?_ ?_ <;> intro hc <;> first|(exfalso; omega)|skip)
             |refine eL [iv a, iv b, iv d] ⟨⟨rfl, fun w' hw' => e1 w' hw'.2⟩, ?_⟩
             |refine dropT (p := a * 6 + b) (by show 0 + a * 6 + b * 1 = a * 6 + b; omega) (by omega) ?_
             |refine splT48 (p := a * 6 + b) (by show 0 + a * 6 + b * 1 = a * 6 + b; omega) (by omega) ?_
             |refine eL [iv (f2 d)] ⟨⟨rfl, tbV_one (by show d * 1 = d; omega) f2 (by omega)⟩, ?_⟩
             |refine And.intro (a := (_ : Nat) ≤ (tbV _ _).length) (by rw [tbV_len]; show d * 1 + 1 ≤ T.length; omega) ?_
           all_goals exact ⟨k + 1, by omega, by omega, Ent.weak rfl ⟨rfl, rfl, rfl, rfl, rfl, rfl, trivial⟩ ⟨rfl, by rw [← hP]; rfl, by rw [← hTT, tbV_setE (o := d * 1) f2 (f2 d + 1) (by omega) (by omega)]; rfl, trivial⟩ fun _ h => h⟩
         · obtain rfl : k = (flL S).length := by omega
           rw [List.take_length]
           generalize hf1 : (fun p => CG p - cntP (flL S) p) = f1 at *
           have hal : alN (fun p => CG p - cntP (flL S) p == 0) 48 = alN (fun p => f1 p == 0) 48 := by rw [← hf1]
           rw [hal]
           repeat'
            conv => whnf
            first
             |(refine splD ?_ ?_ <;> intro hc <;> first|(exfalso; omega)|skip)
           refine loopN 4 (fun k : Nat => [(2, .ptr 0 0), (5, .ptr 1 0), (73, .os 2 3 T.length), (74, .v (iv T.length)), (75, .v (iv k))]) (fun k => [(0, .cells [.v (iv sl), .v (iv ro), .v (iv su), .v (.slice go G.length gc), .v (.slice to T.length tc)] 34), (1, .cells (tbS 48 f1) 117), (2, .own 3 T.length 1 (tbV T.length fun t => cntT (flL S) t) 3)]) (fun k => k ≤ T.length ∧ alN (fun t => decide (cntT (flL S) t ≤ ((T.map Tc.d).getD t ([], 0)).2)) k = true) (fun k => T.length - k) 0 ⟨Nat.zero_le _, rfl⟩ ⟨rfl, rfl, rfl, rfl, rfl, trivial⟩ ⟨rfl, rfl, rfl, trivial⟩ (fun k _ => ⟨rfl, by show (Nat.blt 0 4 && _ && (Nat.blt 1 4 && SV.lts 4 (tbS 48 _) && _)) = true; rw [tbS_lt]; rfl⟩) ?_
           intro k ⟨hk, hall⟩
           rcases Nat.lt_or_ge k T.length with hkl | hkl
           · obtain ⟨⟨to', tc', xs, hh'⟩, hx⟩ : ∃ b, T[k]? = some b := ⟨_, List.getElem?_eq_getElem hkl⟩
             obtain ⟨_, ad, rfl, _⟩ := ht.ptr (by omega)
             have e1 := fun (w' : World) hw' => rd_fld (ht.below (w' := w') hw') hx
             have hget : ((T.map Tc.d).getD k ([], 0)).2 = hh' := by
              rw [List.getD_eq_getElem?_getD, List.getElem?_map, hx]; rfl
             by_cases hle : cntT (flL S) k ≤ hh'
             · have hn : alN (fun t => decide (cntT (flL S) t ≤ ((T.map Tc.d).getD t ([], 0)).2)) (k + 1) = true := by rw [alN, hall, hget, decide_eq_true hle]; rfl
               repeat'
                conv => whnf
                first
                 |refine zB ?_|refine zF ?_|refine zG ?_
                 |(refine splD ?_ ?_ <;> intro hc <;> first|(exfalso; omega)|skip)
                 |refine eL [iv (cntT (flL S) k)] ⟨⟨rfl, tbV_one (by show k * 1 = k; omega) (fun t => cntT (flL S) t) (by omega)⟩, ?_⟩
                 |refine eL [iv hh'] ⟨⟨rfl, fun w' hw' => e1 w' hw'.1 1 _ rfl⟩, ?_⟩
               all_goals exact ⟨k + 1, ⟨by omega, hn⟩, by omega, Ent.weak rfl ⟨rfl, rfl, rfl, rfl, rfl, trivial⟩ ⟨rfl, rfl, rfl, trivial⟩ fun _ h => h⟩
             · rw [alN_no hkl (by rw [hget]; exact decide_eq_false hle)]
               repeat'
                conv => whnf
                first
                 |refine zB ?_|refine zG ?_
                 |(refine splD ?_ ?_ <;> intro hc <;> first|(exfalso; omega)|skip)
                 |refine eL [iv (cntT (flL S) k)] ⟨⟨rfl, tbV_one (by show k * 1 = k; omega) (fun t => cntT (flL S) t) (by omega)⟩, ?_⟩
                 |refine eL [iv hh'] ⟨⟨rfl, fun w' hw' => e1 w' hw'.1 1 _ rfl⟩, ?_⟩
               all_goals exact ⟨fun β => rfl, fun w' h => h.1⟩
           · obtain rfl : k = T.length := by omega
             rw [hall]
             repeat'
              conv => whnf
              first
               |(refine splD ?_ ?_ <;> intro hc <;> first|(exfalso; omega)|skip)
               |refine Exists.intro (α := Value) _ ⟨fun β => eq48 f1 _ _, ?_⟩
             all_goals exact ⟨fun β => rfl, fun w' h => h.1⟩
  · rw [List.length_map, decide_eq_false hsl]
    obtain ⟨sl, ro, su, go, gc, G, to, tc, T⟩ := s
    dsimp only [Sc.d] at hsl
    refine calls_val env mixed Tryz.func28 has28 Tryz.ntmps28 [.agg #[iv sl, iv ro, iv su, .slice go G.length gc, .slice to T.length tc], .slice o S.length c] (by simp) ?_
    repeat'
     conv => whnf
     first
      |refine zB ?_|refine zD ?_|refine splT ?_|refine splF ?_|refine splNot ?_
      |(refine splD ?_ ?_ <;> intro hc <;> first|(exfalso; omega)|skip)
      |((with_reducible show CallEv _ _ 37 ..); refine callE (fun β w' hbw => c37 _ hbw) ?_)
    all_goals exact ⟨fun β => rfl, fun w' h => h⟩
structure Rn where
 k : Int
 g : Int
 o : Option Addr
 c : Nat
 L : List Int
 n : Int
 h : Int
abbrev Rn.cs (r : Rn) : List Value := [.int .u8 r.k, iv r.g, .slice r.o r.L.length r.c, iv r.n, iv r.h]
abbrev Rn.v (r : Rn) : Value := .agg #[.int .u8 r.k, iv r.g, .slice r.o r.L.length r.c, iv r.n, iv r.h]
structure RD where
 k : Int
 g : Int
 L : List Int
 n : Int
 h : Int
def Rn.d (r : Rn) : RD := ⟨r.k, r.g, r.L, r.n, r.h⟩
theorem holds_ok (r : Rn) (w : World) : Calls Tryz.prog 60 #[r.v] w fun e w' => e = .returned (.bool (decide (r.h < r.n))) ∧ Below w.heap.size w w' := by
 obtain ⟨k, g, o, c, L, n, h⟩ := r
 refine calls_val env mixed Tryz.func60 has60 Tryz.ntmps60 [.agg #[.int .u8 k, iv g, .slice o L.length c, iv n, iv h]] (by simp) ?_
 repeat'
  conv => whnf
  first
   |refine zB ?_
 all_goals exact ⟨fun β => rfl, fun w' h => h⟩
theorem crowded_ok (s : Sc) (g : Nat) (xs : List Int) (w : World) (h : ScIn s w) (hv : scOk s.d = true) (hx : s.d.G[g]? = some xs) : Calls Tryz.prog 62 #[s.v, iv g] w fun e w' => e = .returned (Rn.v ⟨1, g, none, 0, [], (xs.map id).sum, s.sl⟩) ∧ Below w.heap.size w w' := by
 have hg1 := grp_at hv (List.mem_of_getElem? hx)
 obtain ⟨hv1, hv2, hv3, hv4, hv5, hv6, hv7⟩ := scOk_iff.1 hv
 obtain ⟨hg, hr, ht, hh⟩ := h
 obtain ⟨sl, ro, su, go, gc, G, to, tc, T⟩ := s
 dsimp only [Sc.d] at hx hg1 hv3 hg hr ⊢
 rw [List.getElem?_map] at hx
 cases hxr : G[g]? with
 | none => rw [hxr] at hx; cases hx
 | some r =>
  rw [hxr] at hx
  obtain ⟨ro', rc, ys⟩ := r
  simp only [Option.map_some, Option.some.injEq] at hx
  subst hx
  have hgl := (List.getElem?_eq_some_iff.1 hxr).1
  obtain ⟨_, ad, rfl, _⟩ := hg.ptr (by omega)
  have e0 := fun (w' : World) hw' => rd_ati (hg.below (w' := w') hw') hxr
  have hrr := hr _ (List.mem_of_getElem? hxr)
  change Rd 1 iF (.slice ro' ys.length rc) ys w at hrr
  have c92 := fun (w' : World) (hw : Below w.heap.size w w') => sum92_ok ys ro' rc w' (hrr.below hw) (by omega) (fun x hx => by have := hg1.2 x hx; omega)
  generalize (ys.map id).sum = S at *
  refine calls_val env mixed Tryz.func62 has62 Tryz.ntmps62 [.agg #[iv sl, iv ro, iv su, .slice (some ad) G.length gc, .slice to T.length tc], iv g] (by simp) ?_
  repeat'
   conv => whnf
   first
    |refine zA ?_|refine zB ?_|refine zC ?_|refine zD ?_|refine zG ?_
    |refine eL [.slice ro' ys.length rc] ⟨⟨rfl, fun w' hw' => e0 w' hw'⟩, ?_⟩
    |((with_reducible show CallEv _ _ 92 ..); refine callE (fun β w' hbw => c92 _ hbw) ?_)
  all_goals exact ⟨fun β => rfl, fun w' h => h⟩
theorem untaught_ok (s : Sc) (l : List Int) (o : Option Addr) (c : Nat) (w : World) (h : ScIn s w) (hB : ScB s) (hv : scOk s.d = true) (hrd : Rd 1 iF (.slice o l.length c) l w) (hs : subIn s.d l) : Calls Tryz.prog 64 #[s.v, .slice o l.length c] w fun e w' => e = .returned (Rn.v ⟨2, 0, o, c, l, hoursP s.d l, timesP s.d l⟩) ∧ Below w.heap.size w w' := by
 have c93 := fun (w' : World) (hw : Below w.heap.size w w') => hours_ok s l o c w' (h.below hw) hv (hrd.below hw) hs
 have c94 := fun (w' : World) (hw : Below w.heap.size w w') => times_ok s l o c w' (h.below hw) hB hv (hrd.below hw) (by have := hs.1; omega)
 generalize hoursP s.d l = H at *
 generalize timesP s.d l = M at *
 obtain ⟨sl, ro, su, go, gc, G, to, tc, T⟩ := s
 refine calls_val env mixed Tryz.func64 has64 Tryz.ntmps64 [.agg #[iv sl, iv ro, iv su, .slice go G.length gc, .slice to T.length tc], .slice o l.length c] (by simp) ?_
 repeat'
  conv => whnf
  first
   |refine zA ?_|refine zB ?_|refine zC ?_|refine zD ?_
   |((with_reducible show CallEv _ _ 93 ..); refine callE (fun β w' hbw => c93 _ hbw) ?_)
   |((with_reducible show CallEv _ _ 94 ..); refine callE (fun β w' hbw => c94 _ hbw) ?_)
 all_goals exact ⟨fun β => rfl, fun w' h => h⟩
def numL (n : Nat) : List Int := (List.range n).map fun i : Nat => (i : Int)
theorem numL_v (n : Nat) : (numL n).flatMap iF = tbV n fun i => (i : Int) := by rw [fIv, numL, List.map_map]; rfl
theorem numbers_own (n : Nat) (hn : 1 ≤ n ∧ n ≤ 10) (w : World) : Calls Tryz.prog 95 #[iv n] w fun e w' => ∃ b d, e = .returned (.slice (some ⟨b, 0, none⟩) n d) ∧ w.heap.size ≤ b ∧ Below w.heap.size w w' ∧ w'.ownsRow 0 3 1 (.slice (some ⟨b, 0, none⟩) n d) n (tbV n fun i => (i : Int)) := by
 refine calls_fam2 env mixed Tryz.func95 has95 Tryz.ntmps95 [iv n] (by simp) ?_
 repeat'
  conv => whnf
  first
   |refine mkO env 0 n (tbV n fun _ => 0) rfl rfl rfl (by decide) rfl (by omega) (by decide) (mk0 _) rfl ?_
 refine loopN 2 (fun k : Nat => [(3, .os 0 1 n), (7, .os 0 1 n), (8, .v (iv n)), (9, .v (iv k))]) (fun k => [(0, .own 1 n 1 (tbV n fun i => if i < k then (i : Int) else 0) 3)]) (fun k => k ≤ n) (fun k => n - k) 0 (Nat.zero_le _) ⟨rfl, rfl, rfl, rfl, trivial⟩ ⟨by simp; rfl, trivial⟩ (fun _ _ => ⟨rfl, rfl⟩) ?_
 intro k hk
 rcases Nat.lt_or_ge k n with hkl | hkl
 · have hst : (fun i => if i < k + 1 then (i : Int) else 0) = updF (fun i => if i < k then (i : Int) else 0) k k := by
    funext i
    unfold updF
    by_cases h1 : i = k
    · subst h1; simp
    · rw [if_neg h1]
      dsimp only
      by_cases h2 : i < k
      · rw [if_pos h2, if_pos (by omega)]
      · rw [if_neg h2, if_neg (by omega)]
   generalize hf : (fun i => if i < k then (i : Int) else 0) = f at *
   repeat'
    conv => whnf
    first
     |refine zC ?_|refine zF ?_|refine zG ?_
     |(refine splD ?_ ?_ <;> intro hc <;> first|(exfalso; omega)|skip)
     |refine And.intro (a := (_ : Nat) ≤ (tbV _ _).length) (by rw [tbV_len]; show k * 1 + 1 ≤ n; omega) ?_
   all_goals exact ⟨k + 1, by omega, by omega, Ent.weak rfl ⟨rfl, rfl, rfl, rfl, trivial⟩ ⟨by rw [hst, tbV_setE (o := k * 1) f k (by omega) hkl]; rfl, trivial⟩ fun _ h => h⟩
 · obtain rfl : k = n := by omega
   have hst : tbV k (fun i => if i < k then (i : Int) else 0) = tbV k fun i => (i : Int) := by
    unfold tbV
    refine List.map_congr_left fun i hi => ?_
    dsimp only
    rw [if_pos (List.mem_range.1 hi)]
   rw [hst]
   repeat'
    conv => whnf
    first
     |(refine splD ?_ ?_ <;> intro hc <;> first|(exfalso; omega)|skip)
   exact ⟨fun w' h => h, fun β w' hB hB2 hblk => ⟨β 0, β 1, rfl, (hblk 0 _ rfl rfl).1, hB2, by have := (hblk 0 _ rfl rfl).2; simpa [Blk.ok] using this⟩⟩
theorem full_ok (s : Sc) (w : World) (h : ScIn s w) (hv : scOk s.d = true) : Calls Tryz.prog 65 #[s.v] w fun e w' => e = .returned (Rn.v ⟨3, 0, none, 0, [], hoursP s.d (numL s.su.toNat), s.ro * s.sl⟩) ∧ Below w.heap.size w w' := by
 obtain ⟨hv1, hv2, hv3, hv4, hv5, hv6, hv7⟩ := scOk_iff.1 hv
 change 1 ≤ s.su ∧ s.su ≤ 6 at hv3
 change 1 ≤ s.sl ∧ s.sl ≤ 40 at hv1
 change 1 ≤ s.ro ∧ s.ro ≤ 6 at hv2
 obtain ⟨n, hn⟩ := Int.eq_ofNat_of_zero_le (show 0 ≤ s.su by omega)
 have hnl : (numL n).length = n := by simp [numL]
 have hsub : subIn s.d (numL n) := ⟨by omega, fun j hj => by
  obtain ⟨i, hi, rfl⟩ := List.mem_map.1 hj
  have := List.mem_range.1 hi
  show 0 ≤ (i : Int) ∧ (i : Int) ≤ s.su - 1
  omega⟩
 have c93 := fun (o : Option Addr) (c : Nat) (w' : World) (hw : Below w.heap.size w w') (hr : Rd 1 iF (.slice o n c) (numL n) w') => hours_ok s (numL n) o c w' (h.below hw) hv (by rw [hnl]; exact hr) hsub
 rw [hnl] at c93
 have hm : -1000 ≤ s.ro * s.sl ∧ s.ro * s.sl ≤ 1000 := by
  have h1 : 0 ≤ s.ro * s.sl := Int.mul_nonneg (by omega) (by omega)
  have h2 : s.ro * s.sl ≤ 6 * 40 := Int.mul_le_mul hv2.2 hv1.2 (by omega) (by omega)
  omega
 rw [show s.su.toNat = n by omega]
 generalize hoursP s.d (numL n) = H at *
 have c95 := fun (w' : World) => numbers_own n ⟨by omega, by omega⟩ w'
 rw [← numL_v] at c95
 obtain ⟨sl, ro, su, go, gc, G, to, tc, T⟩ := s
 dsimp only at hn hm hv1 hv2 hv3 c93 ⊢
 subst hn
 refine calls_val env mixed Tryz.func65 has65 Tryz.ntmps65 [.agg #[iv sl, iv ro, iv n, .slice go G.length gc, .slice to T.length tc]] (by simp) ?_
 generalize hX : ro * sl = X at *
 repeat'
  conv => whnf
  first
   |refine zA ?_|refine zB ?_|refine zC ?_|refine zD ?_|refine zF ?_
   |((with_reducible show CallEv _ _ 95 ..); refine callO 2 [] (.os 2 3 n) n 1 ((numL n).flatMap iF) 3 rfl (fun β w' _ hbw => c95 w') ?_)
   |((with_reducible show CallEv _ _ 93 ..); refine callM [2] (fun β w' hbk hbw => c93 _ _ w' hbw (Rd.of_owns (sz := 1) (f := iF) (fun _ => rfl) rfl hnl.symm (hbk 2 (by simp) _ rfl))) ?_)
 all_goals exact ⟨fun β => by subst hX; rfl, fun w' h => h⟩
def hoB (G : List (List Int)) (su n : Nat) (Y : List Ln) : Bool := alN (fun a => alN (fun b => cntP Y (a * 6 + b) == (G.getD a []).getD b 0) su) n
def rfitB (s : SD) (X : List (List Ln)) : Bool := decide ((X.length : Int) = s.sl) && (X.all (sltB s) && (hoB s.G s.su.toNat s.G.length X.flatten && alN (fun t => decide (cntT X.flatten t ≤ (s.T.getD t ([], 0)).2)) s.T.length))
theorem cntP_zero {Y : List Ln} {p : Nat} (h : ∀ x ∈ Y, ¬ (x.g = ((p / 6 : Nat) : Int) ∧ x.j = ((p % 6 : Nat) : Int))) : cntP Y p = 0 := by
 unfold cntP
 induction Y with
 | nil => rfl
 | cons x Y ih =>
  rw [List.map_cons, List.sum_cons, ih (fun y hy => h y (by simp [hy])), decide_eq_false (h x (by simp))]; rfl
theorem fit_ref {s : SD} {X : List (List Ln)} (h : scOk s = true) : fitB s X = rfitB s X := by
 unfold fitB rfitB
 rw [h, Bool.true_and]
 by_cases h1 : (X.length : Int) = s.sl
 · rw [decide_eq_true h1, Bool.true_and, Bool.true_and]
   cases h2 : X.all (sltB s) with
   | false => rfl
   | true =>
    rw [Bool.true_and, Bool.true_and, Bool.and_comm]
    congr 1
    obtain ⟨hv1, hv2, hv3, hv4, hv5, hv6, hv7⟩ := scOk_iff.1 h
    have hles := fun (x : Ln) (hx : x ∈ X.flatten) => lesB_bd (sltB_les h2 hx)
    have hrow : ∀ (a : Nat) (xs : List Int), s.G[a]? = some xs → (xs.length : Int) = s.su := fun a xs ha => by
     have := List.all_eq_true.1 hv6 xs (List.mem_of_getElem? ha)
     unfold grB at this
     simp only [Bool.and_eq_true, decide_eq_true_eq] at this
     exact this.1
    rw [Bool.eq_iff_iff, alN_iff, hoB, alN_iff]
    simp only [alN_iff, beq_iff_eq]
    constructor
    · intro hh a ha b hb
      have := hh (a * 6 + b) (by omega)
      unfold cellG at this
      rw [show (a * 6 + b) / 6 = a by omega, show (a * 6 + b) % 6 = b by omega] at this
      rw [List.getD_eq_getElem?_getD (l := s.G)]
      omega
    · intro hh p hp
      by_cases ha : p / 6 < s.G.length ∧ p % 6 < s.su.toNat
      · have := hh (p / 6) ha.1 (p % 6) ha.2
        rw [show p / 6 * 6 + p % 6 = p by omega, List.getD_eq_getElem?_getD (l := s.G)] at this
        unfold cellG
        omega
      · have h0 : cntP X.flatten p = 0 := cntP_zero fun x hx hc => by
         have := hles x hx
         omega
        have h3 : cellG s.G p = 0 := by
         unfold cellG
         cases hg : s.G[p / 6]? with
         | none => rfl
         | some xs =>
          have h4 := hrow _ _ hg
          have h5 := (List.getElem?_eq_some_iff.1 hg).1
          rw [Option.getD_some, List.getD_eq_getElem?_getD, List.getElem?_eq_none (by omega)]; rfl
        omega
 · rw [decide_eq_false h1]; rfl
end Go.Proofs.YtkbfcofifhngfaaGreat
namespace Go.Proofs.YtkbfcofifhngfaaGreat.Tx
open Go Go.RowKit
end Go.Proofs.YtkbfcofifhngfaaGreat.Tx
namespace Go.Proofs.YtkbfcofifhngfaaGreat
open Go Tx Go.RowKit
def memL (set k : Nat) : List Int := ((List.range k).filter fun i => set.testBit i).map fun i : Nat => (i : Int)
theorem memL_step (set k : Nat) : memL set (k + 1) = memL set k ++ (bif set.testBit k then [(k : Int)] else []) := by
 unfold memL
 rw [List.range_succ, List.filter_append, List.map_append]
 congr 1
 cases h : set.testBit k <;> simp [h]
theorem und106 : Tryz.prog.underlying 106 = some (.int .u64) := by kernel_rfl
theorem cvU (t : Nat) (h : t < 1000000) : RunIs Tryz.prog (convert 3 106 (.int .i64 t)) (.int .u64 t) := fun w => by
 have h3 : IntKind.u64.wrap (t : Int) = t := IR.wrap (k := .u64) ⟨by omega, by omega⟩
 simp [convert, Conv.intToInt, Go.run_underlying und106 w, Go.run_underlying und3 w, h3]
def ltB : List Int → List Int → Bool
 | x :: a, y :: b => if x = y then ltB a b else decide (x < y)
 | _, _ => false
def befB (a b : List Int) : Bool := if a.length = b.length then ltB a b else decide (a.length < b.length)
theorem ltB_self : ∀ a : List Int, ltB a a = false
 | [] => rfl
 | x :: a => by rw [ltB, if_pos rfl]; exact ltB_self a
end Go.Proofs.YtkbfcofifhngfaaGreat
namespace Go.Proofs.YtkbfcofifhngfaaGreat
open Go Tx Go.RowKit
def crB (s : SD) (g : Nat) : Bool := decide (s.sl < ((s.G.getD g []).map id).sum)
def crF (s : SD) : Nat → Nat → Option Nat
 | _, 0 => none
 | k, n + 1 => if crB s k = true then some k else crF s (k + 1) n
def unB (s : SD) (l : List Int) : Bool := decide (timesP s l < hoursP s l)
def bestK (s : SD) : Nat → Option (List Int)
 | 0 => none
 | n + 1 => if unB s (memL (n + 1) 6) = true ∧ (bestK s n = none ∨ ∃ b, bestK s n = some b ∧ befB (memL (n + 1) 6) b = true) then some (memL (n + 1) 6) else bestK s n
def rWhy (s : SD) : Option RD :=
 match crF s 0 s.G.length with
 | some g => some ⟨1, g, [], ((s.G.getD g []).map id).sum, s.sl⟩
 | none => match bestK s (2 ^ s.su.toNat - 1) with
  | some l => some ⟨2, 0, l, hoursP s l, timesP s l⟩
  | none => if s.ro * s.sl < hoursP s (numL s.su.toNat) then some ⟨3, 0, [], hoursP s (numL s.su.toNat), s.ro * s.sl⟩ else none
theorem crF_at {s : SD} {k n : Nat} (h : crB s k = true) (hn : 0 < n) : crF s k n = some k := by
 cases n with
 | zero => omega
 | succ n => rw [crF, if_pos h]
theorem crF_no {s : SD} {k n : Nat} (h : crB s k = false) (hn : 0 < n) : crF s k n = crF s (k + 1) (n - 1) := by
 cases n with
 | zero => omega
 | succ n => rw [crF, if_neg (by rw [h]; decide)]; rfl
abbrev RnF (r : Option RD) := { y : Rn // y.d = r.getD ⟨0, 0, [], 0, 0⟩ }
theorem mem_sub {s : SD} (hv : scOk s = true) {n : Nat} (hn : n < 2 ^ s.su.toNat) : subIn s (memL n 6) := by
 obtain ⟨hv1, hv2, hv3, hv4, hv5, hv6, hv7⟩ := scOk_iff.1 hv
 refine ⟨?_, fun j hj => ?_⟩
 · unfold memL
   rw [List.length_map]
   have := List.length_filter_le (fun i => n.testBit i) (List.range 6)
   rw [List.length_range] at this
   omega
 · unfold memL at hj
   obtain ⟨i, hi, rfl⟩ := List.mem_map.1 hj
   have h1 := (List.mem_filter.1 hi).2
   have h2 : ¬ s.su.toNat ≤ i := fun h => by
    have : n < 2 ^ i := Nat.lt_of_lt_of_le hn (Nat.pow_le_pow_right (by omega) h)
    rw [Nat.testBit_lt_two_pow this] at h1; cases h1
   omega
theorem ints_ok (a b : List Int) (oa ob : Option Addr) (ca cb : Nat) (w : World) (ha : Rd 1 iF (.slice oa a.length ca) a w) (hb : Rd 1 iF (.slice ob b.length cb) b w) (hla : a.length ≤ 1000000) :
 Calls Tryz.prog 36 #[.slice oa a.length ca, .slice ob b.length cb] w fun e w' => e = .returned (.bool (decide (a = b))) ∧ Below w.heap.size w w' := by
 refine calls_val env mixed Tryz.func36 has36 Tryz.ntmps36 [.slice oa a.length ca, .slice ob b.length cb] (by simp) ?_
 by_cases hl : a.length = b.length
 · skip
   repeat'
    conv => whnf
    first
     |refine splNot ?_
     |(refine splD ?_ ?_ <;> intro hc <;> first|(exfalso; omega)|skip)
   refine loopE (fun k : Nat => [(0, .v (.slice oa a.length ca)), (1, .v (.slice ob b.length cb)), (5, .v (iv k))]) (fun _ => []) (fun k => k ≤ a.length ∧ a.take k = b.take k) (fun k => a.length - k) 0 ⟨Nat.zero_le _, rfl⟩ ⟨rfl, rfl, rfl, trivial⟩ trivial (fun _ => ⟨rfl, rfl⟩) ?_
   intro k ⟨hk, hall⟩
   rcases Nat.lt_or_ge k a.length with hkl | hkl
   · obtain ⟨x, hx⟩ : ∃ x, a[k]? = some x := ⟨_, List.getElem?_eq_getElem hkl⟩
     obtain ⟨y, hy⟩ : ∃ y, b[k]? = some y := ⟨_, List.getElem?_eq_getElem (by omega)⟩
     obtain ⟨_, ad, rfl, _⟩ := ha.ptr (by omega)
     obtain ⟨_, ad2, rfl, _⟩ := hb.ptr (by omega)
     have e0 := fun (w' : World) hw' => rd_ati (ha.below (w' := w') hw') hx
     have e1 := fun (w' : World) hw' => rd_ati (hb.below (w' := w') hw') hy
     by_cases hxy : x = y
     · have hn : a.take (k + 1) = b.take (k + 1) := by rw [List.take_add_one, List.take_add_one, hx, hy, hall, hxy]
       repeat'
        conv => whnf
        first
         |refine zA ?_|refine zF ?_|refine zG ?_|refine splNot ?_
         |(refine splD ?_ ?_ <;> intro hc <;> first|(exfalso; omega)|skip)
         |refine eL [iv x] ⟨⟨rfl, fun w' hw' => e0 w' hw'⟩, ?_⟩
         |refine eL [iv y] ⟨⟨rfl, fun w' hw' => e1 w' hw'⟩, ?_⟩
       all_goals exact ⟨k + 1, ⟨by omega, hn⟩, by omega, Ent.weak rfl ⟨rfl, rfl, rfl, trivial⟩ trivial fun _ h => h⟩
     · rw [decide_eq_false (fun h => hxy (by rw [h, hy] at hx; exact (Option.some.inj hx).symm))]
       repeat'
        conv => whnf
        first
         |refine zA ?_|refine zG ?_|refine splNot ?_
         |(refine splD ?_ ?_ <;> intro hc <;> first|(exfalso; omega)|skip)
         |refine eL [iv x] ⟨⟨rfl, fun w' hw' => e0 w' hw'⟩, ?_⟩
         |refine eL [iv y] ⟨⟨rfl, fun w' hw' => e1 w' hw'⟩, ?_⟩
       all_goals exact ⟨fun β => rfl, fun w' h => h⟩
   · have hab : a = b := by
      rw [List.take_of_length_le hkl, List.take_of_length_le (by omega)] at hall
      exact hall
     rw [decide_eq_true hab]
     repeat'
      conv => whnf
      first
       |(refine splD ?_ ?_ <;> intro hc <;> first|(exfalso; omega)|skip)
     all_goals exact ⟨fun β => rfl, fun w' h => h⟩
 · rw [decide_eq_false (fun h => hl (by rw [h]))]
   repeat'
    conv => whnf
    first
     |refine splNot ?_
     |(refine splD ?_ ?_ <;> intro hc <;> first|(exfalso; omega)|skip)
   all_goals exact ⟨fun β => rfl, fun w' h => h⟩
theorem Equal_ok (a b : List Int) (oa ob : Option Addr) (ca cb : Nat) (w : World) (ha : Rd 1 iF (.slice oa a.length ca) a w) (hb : Rd 1 iF (.slice ob b.length cb) b w) (hla : a.length ≤ 1000000) :
 Calls Tryz.prog 66 #[.slice oa a.length ca, .slice ob b.length cb] w fun e w' => e = .returned (.bool (decide (a = b))) ∧ Below w.heap.size w w' := by
 refine calls_val env mixed Tryz.func66 has66 Tryz.ntmps66 [.slice oa a.length ca, .slice ob b.length cb] (by simp) ?_
 by_cases hl : a.length = b.length
 · skip
   repeat'
    conv => whnf
    first
     |refine splNot ?_
     |(refine splD ?_ ?_ <;> intro hc <;> first|(exfalso; omega)|skip)
   refine loopE (fun k : Nat => [(0, .v (.slice oa a.length ca)), (1, .v (.slice ob b.length cb)), (12, .v (iv a.length)), (13, .v (iv k))]) (fun _ => []) (fun k => k ≤ a.length ∧ a.take k = b.take k) (fun k => a.length - k) 0 ⟨Nat.zero_le _, rfl⟩ ⟨rfl, rfl, rfl, rfl, trivial⟩ trivial (fun _ => ⟨rfl, rfl⟩) ?_
   intro k ⟨hk, hall⟩
   rcases Nat.lt_or_ge k a.length with hkl | hkl
   · obtain ⟨x, hx⟩ : ∃ x, a[k]? = some x := ⟨_, List.getElem?_eq_getElem hkl⟩
     obtain ⟨y, hy⟩ : ∃ y, b[k]? = some y := ⟨_, List.getElem?_eq_getElem (by omega)⟩
     obtain ⟨_, ad, rfl, _⟩ := ha.ptr (by omega)
     obtain ⟨_, ad2, rfl, _⟩ := hb.ptr (by omega)
     have e0 := fun (w' : World) hw' => rd_ati (ha.below (w' := w') hw') hx
     have e1 := fun (w' : World) hw' => rd_ati (hb.below (w' := w') hw') hy
     by_cases hxy : x = y
     · have hn : a.take (k + 1) = b.take (k + 1) := by rw [List.take_add_one, List.take_add_one, hx, hy, hall, hxy]
       repeat'
        conv => whnf
        first
         |refine zA ?_|refine zF ?_|refine zG ?_|refine splNot ?_
         |(refine splD ?_ ?_ <;> intro hc <;> first|(exfalso; omega)|skip)
         |refine eL [iv x] ⟨⟨rfl, fun w' hw' => e0 w' hw'⟩, ?_⟩
         |refine eL [iv y] ⟨⟨rfl, fun w' hw' => e1 w' hw'⟩, ?_⟩
       all_goals exact ⟨k + 1, ⟨by omega, hn⟩, by omega, Ent.weak rfl ⟨rfl, rfl, rfl, rfl, trivial⟩ trivial fun _ h => h⟩
     · rw [decide_eq_false (fun h => hxy (by rw [h, hy] at hx; exact (Option.some.inj hx).symm))]
       repeat'
        conv => whnf
        first
         |refine zA ?_|refine zG ?_|refine splNot ?_
         |(refine splD ?_ ?_ <;> intro hc <;> first|(exfalso; omega)|skip)
         |refine eL [iv x] ⟨⟨rfl, fun w' hw' => e0 w' hw'⟩, ?_⟩
         |refine eL [iv y] ⟨⟨rfl, fun w' hw' => e1 w' hw'⟩, ?_⟩
       all_goals exact ⟨fun β => rfl, fun w' h => h⟩
   · have hab : a = b := by
      rw [List.take_of_length_le hkl, List.take_of_length_le (by omega)] at hall
      exact hall
     rw [decide_eq_true hab]
     repeat'
      conv => whnf
      first
       |(refine splD ?_ ?_ <;> intro hc <;> first|(exfalso; omega)|skip)
     all_goals exact ⟨fun β => rfl, fun w' h => h⟩
 · rw [decide_eq_false (fun h => hl (by rw [h]))]
   repeat'
    conv => whnf
    first
     |refine splNot ?_
     |(refine splD ?_ ?_ <;> intro hc <;> first|(exfalso; omega)|skip)
   all_goals exact ⟨fun β => rfl, fun w' h => h⟩
def sameB (a b : RD) : Bool := decide (a.k = b.k) && (decide (a.g = b.g) && (decide (a.L = b.L) && (decide (a.n = b.n) && decide (a.h = b.h))))
theorem same_ok (a b : Rn) (w : World) (ha : Rd 1 iF (.slice a.o a.L.length a.c) a.L w) (hb : Rd 1 iF (.slice b.o b.L.length b.c) b.L w) (hla : a.L.length ≤ 1000000) :
 Calls Tryz.prog 23 #[a.v, b.v] w fun e w' => e = .returned (.bool (sameB a.d b.d)) ∧ Below w.heap.size w w' := by
 have c36 := fun (w' : World) (hw : Below w.heap.size w w') => ints_ok a.L b.L a.o b.o a.c b.c w' (ha.below hw) (hb.below hw) hla
 obtain ⟨ak, ag, ao, ac, aL, an, ah⟩ := a
 obtain ⟨bk, bg, bo, bc, bL, bn, bh⟩ := b
 unfold sameB Rn.d
 dsimp only at c36 ⊢
 generalize decide (aL = bL) = q at *
 refine calls_val env mixed Tryz.func23 has23 Tryz.ntmps23 [.agg #[.int .u8 ak, iv ag, .slice ao aL.length ac, iv an, iv ah], .agg #[.int .u8 bk, iv bg, .slice bo bL.length bc, iv bn, iv bh]] (by simp) ?_
 by_cases h1 : ak = bk <;> by_cases h2 : ag = bg <;> cases q <;> by_cases h3 : an = bn
 all_goals skip
 repeat'
  conv => whnf
  first
   |refine zB ?_|refine zD ?_|refine splT ?_|refine splF ?_
   |(refine splD ?_ ?_ <;> intro hc <;> first|(exfalso; omega)|skip)
   |((with_reducible show CallEv _ _ 36 ..); refine callE (fun β w' hbw => c36 _ hbw) ?_)
 all_goals exact ⟨fun β => congrArg Value.bool (by by_cases h4 : ah = bh <;> simp [*]), fun w' h => h⟩
theorem reason_ok (r : Rn) (w : World) (hr : Rd 1 iF (.slice r.o r.L.length r.c) r.L w) (hl : r.L.length ≤ 1000000) :
 Calls Tryz.prog 25 #[r.v] w fun e w' => ∃ y : { y : Rn // y.d = r.d }, e = .returned y.1.v ∧ Below w.heap.size w w' ∧ St w.heap.size (Rd 1 iF (.slice y.1.o y.1.L.length y.1.c) y.1.L) w' := by
 obtain ⟨k, g, o, c, L, n, h⟩ := r
 dsimp only at hr hl
 refine calls_fam env mixed Tryz.func25 has25 Tryz.ntmps25 [.agg #[.int .u8 k, iv g, .slice o L.length c, iv n, iv h]] (by simp) ?_
 cases L with
 | nil =>
  have hlo := fun (w' : World) (hb : Below w.heap.size w w') => list_none o c w' (hr.below hb)
  repeat'
   conv => whnf
   first
    |refine zA ?_|refine zB ?_|refine zC ?_|refine zD ?_
    |((with_reducible show CallEv _ _ 49 ..); refine callE (fun β w' hbw => hlo _ hbw) ?_)
  exact ⟨fun w' h => h, fun β w' hB hblk => ⟨⟨⟨k, g, none, 0, [], n, h⟩, rfl⟩, rfl, fun _ _ => .inl ⟨rfl, rfl⟩⟩⟩
 | cons x L =>
  have hlo := fun (w' : World) (hb : Below w.heap.size w w') => list_own (x :: L) o c w' (hr.below hb) (by simp) hl
  repeat'
   conv => whnf
   first
    |refine zA ?_|refine zB ?_|refine zC ?_|refine zD ?_
    |((with_reducible show CallEv _ _ 49 ..); refine callO 2 [] (.os 2 3 (L.length + 1)) (L.length + 1) 1 ((x :: L).flatMap iF) 3 rfl (fun β w' _ hbw => (hlo w' hbw).mono fun _ _ ⟨b, c, h1, h2, h3, h4⟩ => ⟨b, c, h1, h2, h3, h4⟩) ?_)
  refine ⟨fun w' h => h, fun β w' hB hblk => ?_⟩
  obtain ⟨y, h1, h2⟩ := oEnd (sz := 1) (f := iF) (fun _ => rfl) x L (hblk 2 _ rfl rfl)
  exact ⟨⟨⟨k, g, y.1, y.2, x :: L, n, h⟩, rfl⟩, congrArg (fun v => Value.agg #[.int .u8 k, iv g, v, iv n, iv h]) h1, h2⟩
def isB (s : SD) (r : RD) : Bool :=
 decide (r.h < r.n) && (
  if r.k = 1 then inB r.g 0 (s.G.length - 1) && (decide (r.L = []) && (decide (r.n = ((s.G.getD r.g.toNat []).map id).sum) && decide (r.h = s.sl)))
  else if r.k = 2 then subB s.su r.L && (decide (r.g = 0) && (decide (r.n = hoursP s r.L) && decide (r.h = timesP s r.L)))
  else if r.k = 3 then decide (r.g = 0) && (decide (r.L = []) && (decide (r.n = hoursP s (numL s.su.toNat)) && decide (r.h = s.ro * s.sl)))
  else false)
theorem rise_at {l : List Int} {i : Nat} : ∀ {j : Nat}, alN (riA l) l.length = true → i ≤ j → j < l.length → l.getD i 0 + (j - i : Nat) ≤ l.getD j 0
 | 0, h, hij, hj => by
  have : i = 0 := by omega
  subst this; simp
 | j + 1, h, hij, hj => by
  by_cases he : i = j + 1
  · subst he; simp
  · have h1 := rise_at (i := i) (j := j) h (by omega) (by omega)
    have h2 := alN_iff.1 h (j + 1) hj
    unfold riA at h2
    simp only [Bool.or_eq_true, decide_eq_true_eq, Nat.add_sub_cancel] at h2
    rcases h2 with h2 | h2
    · omega
    · omega
theorem sub_in {s : SD} (hv : scOk s = true) {l : List Int} (h : subB s.su l = true) : subIn s l := by
 obtain ⟨hv1, hv2, hv3, hv4, hv5, hv6, hv7⟩ := scOk_iff.1 hv
 unfold subB evB at h
 simp only [Bool.and_eq_true, decide_eq_true_eq, List.all_eq_true] at h
 obtain ⟨h1, h2, h3⟩ := h
 refine ⟨?_, fun j hj => inB_iff.1 (h2 j hj)⟩
 have h4 := rise_at (i := 0) (j := l.length - 1) h3 (by omega) (by omega)
 have hm : ∀ i, i < l.length → 0 ≤ l.getD i 0 ∧ l.getD i 0 ≤ s.su - 1 := fun i hi => by
  rw [List.getD_eq_getElem?_getD, List.getElem?_eq_getElem hi]
  exact inB_iff.1 (h2 _ (List.getElem_mem hi))
 have h5 := hm 0 (by omega)
 have h6 := hm (l.length - 1) (by omega)
 omega
theorem everyRX_ok (L : List Int) (o : Option Addr) (c : Nat) (lo hi : Int) (w : World) (hrd : Rd 1 iF (.slice o L.length c) L w) (hl : L.length ≤ 9223372036854775807) :
 Calls Tryz.prog 51 #[.slice o L.length c, iv lo, iv hi] w fun e w' => e = .returned (.bool (evB L lo hi)) ∧ Below w.heap.size w w' := by
 refine calls_val env mixed Tryz.func51 has51 Tryz.ntmps51 [.slice o L.length c, iv lo, iv hi] (by simp) ?_
 skip
 refine loopE (fun k : Nat => [(0, .v (.slice o L.length c)), (1, .v (iv lo)), (2, .v (iv hi)), (7, .v (iv k))]) (fun _ => []) (fun k => k ≤ L.length ∧ evB (L.take k) lo hi = true) (fun k => L.length - k) 0 ⟨Nat.zero_le _, rfl⟩ ⟨rfl, rfl, rfl, rfl, trivial⟩ trivial (fun _ => ⟨rfl, rfl⟩) ?_
 intro k ⟨hk, hall⟩
 rcases Nat.lt_or_ge k L.length with hkl | hkl
 · obtain ⟨x, hx⟩ : ∃ b, L[k]? = some b := ⟨_, List.getElem?_eq_getElem hkl⟩
   obtain ⟨_, ad, rfl, _⟩ := hrd.ptr (by omega)
   have e0 := fun (w' : World) hw' => rd_ati (hrd.below (w' := w') hw') hx
   have ht := evB_take (lo := lo) (hi := hi) hx
   rw [hall, Bool.true_and] at ht
   have hv := fun w' => In_ok x lo hi w'
   cases hg : inB x lo hi with
   | true =>
    rw [hg] at hv ht
    repeat'
     conv => whnf
     first
      |refine zD ?_|refine zF ?_|refine zG ?_|refine splF ?_
      |(refine splD ?_ ?_ <;> intro hc <;> first|(exfalso; omega)|skip)
      |refine eL [iv x] ⟨⟨rfl, fun w' hw' => e0 w' hw'⟩, ?_⟩
      |((with_reducible show CallEv _ _ 50 ..); refine callE (fun β w' hbw => hv _) ?_)
    exact ⟨k + 1, ⟨by omega, ht⟩, by omega, Ent.weak rfl ⟨rfl, rfl, rfl, rfl, trivial⟩ trivial fun _ h => h⟩
   | false =>
    rw [hg] at hv ht
    rw [evB_no hx hg]
    repeat'
     conv => whnf
     first
      |refine zD ?_|refine zG ?_|refine splT ?_
      |(refine splD ?_ ?_ <;> intro hc <;> first|(exfalso; omega)|skip)
      |refine eL [iv x] ⟨⟨rfl, fun w' hw' => e0 w' hw'⟩, ?_⟩
      |((with_reducible show CallEv _ _ 50 ..); refine callE (fun β w' hbw => hv _) ?_)
    all_goals exact ⟨fun β => rfl, fun w' h => h⟩
 · rw [List.take_of_length_le hkl] at hall
   rw [hall]
   repeat'
    conv => whnf
    first
     |(refine splD ?_ ?_ <;> intro hc <;> first|(exfalso; omega)|skip)
   all_goals exact ⟨fun β => rfl, fun w' h => h⟩
theorem risingX_ok (su : Int) (l : List Int) (o : Option Addr) (c : Nat) (w : World) (hrd : Rd 1 iF (.slice o l.length c) l w) (hl : l.length ≤ 9223372036854775807) (hs : -1000000 ≤ su ∧ su ≤ 1000000) :
 Calls Tryz.prog 52 #[.slice o l.length c, iv su] w fun e w' => e = .returned (.bool (subB su l)) ∧ Below w.heap.size w w' := by
 have c51 := fun (w' : World) (hb : Below w.heap.size w w') => everyRX_ok l o c 0 (su - 1) w' (hrd.below hb) hl
 refine calls_val env mixed Tryz.func52 has52 Tryz.ntmps52 [.slice o l.length c, iv su] (by simp) ?_
 by_cases hl0 : l.length = 0
 · have : subB su l = false := by unfold subB; rw [decide_eq_false (by omega), Bool.false_and]
   rw [this]
   skip
   refine loopE (fun k : Nat => [(0, .v (.slice o l.length c)), (1, .v (iv su)), (5, .v (iv (1 + k)))]) (fun _ => []) (fun k => k ≤ 0) (fun k => l.length - k) 0 (Nat.le_refl _) ⟨rfl, rfl, rfl, trivial⟩ trivial (fun _ => ⟨rfl, rfl⟩) ?_
   intro k hk
   repeat'
    conv => whnf
    first
     |(refine splD ?_ ?_ <;> intro hc <;> first|(exfalso; omega)|skip)
   all_goals exact ⟨fun β => rfl, fun w' h => h⟩
 have hsp : subB su l = (evB l 0 (su - 1) && alN (riA l) l.length) := by unfold subB; rw [decide_eq_true (by omega), Bool.true_and]
 rw [hsp]
 skip
 refine loopE (fun k : Nat => [(0, .v (.slice o l.length c)), (1, .v (iv su)), (5, .v (iv (1 + k)))]) (fun _ => []) (fun k => 1 + k ≤ l.length ∧ alN (riA l) (1 + k) = true) (fun k => l.length - k) 0 ⟨by omega, rfl⟩ ⟨rfl, rfl, rfl, trivial⟩ trivial (fun _ => ⟨rfl, rfl⟩) ?_
 intro k ⟨hk, hall⟩
 rcases Nat.lt_or_ge (1 + k) l.length with hkl | hkl
 · obtain ⟨x, hx⟩ : ∃ b, l[1 + k]? = some b := ⟨_, List.getElem?_eq_getElem hkl⟩
   obtain ⟨y, hy⟩ : ∃ b, l[k]? = some b := ⟨_, List.getElem?_eq_getElem (by omega)⟩
   obtain ⟨_, ad, rfl, _⟩ := hrd.ptr (by omega)
   have e0 := fun (w' : World) hw' => rd_atz (hrd.below (w' := w') hw') hx (1 + (k : Int)) (by omega)
   have e1 := fun (w' : World) hw' => rd_atz (hrd.below (w' := w') hw') hy (1 + (k : Int) - 1) (by omega)
   have hri : riA l (1 + k) = decide (y < x) := by unfold riA; rw [decide_eq_false (by omega), Bool.false_or, Nat.add_sub_cancel_left, getD_at hx, getD_at hy]
   by_cases hlt : y < x
   · rw [decide_eq_true hlt] at hri
     have hnx : alN (riA l) (1 + (k + 1)) = true := by rw [show 1 + (k + 1) = (1 + k) + 1 from by omega, alN, hall, hri]; rfl
     repeat'
      conv => whnf
      first
       |refine zA ?_|refine zF ?_|refine zG ?_
       |(refine splD ?_ ?_ <;> intro hc <;> first|(exfalso; omega)|skip)
       |refine eL [iv x] ⟨⟨rfl, fun w' hw' => e0 w' hw'⟩, ?_⟩
       |refine eL [iv y] ⟨⟨rfl, fun w' hw' => e1 w' hw'⟩, ?_⟩
     all_goals exact ⟨k + 1, ⟨by omega, hnx⟩, by omega, Ent.weak rfl ⟨rfl, rfl, by rw [show (1 : Int) + ((k + 1 : Nat) : Int) = 1 + (k : Int) + 1 from by omega]; rfl, trivial⟩ trivial fun _ h => h⟩
   · rw [decide_eq_false hlt] at hri
     rw [alN_no hkl hri, Bool.and_false]
     repeat'
      conv => whnf
      first
       |refine zA ?_|refine zF ?_|refine zG ?_
       |(refine splD ?_ ?_ <;> intro hc <;> first|(exfalso; omega)|skip)
       |refine eL [iv x] ⟨⟨rfl, fun w' hw' => e0 w' hw'⟩, ?_⟩
       |refine eL [iv y] ⟨⟨rfl, fun w' hw' => e1 w' hw'⟩, ?_⟩
     all_goals exact ⟨fun β => rfl, fun w' h => h⟩
 · have hall' : alN (riA l) l.length = true := by rw [show l.length = 1 + k from by omega]; exact hall
   rw [hall', Bool.and_true]
   cases hw : evB l 0 (su - 1)
   all_goals rw [hw] at c51
   all_goals skip
   repeat'
    conv => whnf
    first
     |refine zD ?_|refine zF ?_
     |(refine splD ?_ ?_ <;> intro hc <;> first|(exfalso; omega)|skip)
     |((with_reducible show CallEv _ _ 51 ..); refine callE (fun β w' hbw => c51 _ hbw) ?_)
   all_goals exact ⟨fun β => rfl, fun w' h => h⟩
theorem RightX_ok (s : Sc) (w : World) (h : ScIn s w) (hB : ScX s) : Calls Tryz.prog 15 #[s.v] w fun e w' => e = .returned (.bool (scOk s.d)) ∧ Below w.heap.size w w' := by
 obtain ⟨sl, ro, su, go, gc, G, to, tc, T⟩ := s
 obtain ⟨hg, hr, ht, hh⟩ := h
 obtain ⟨b1, b2, b3, b4⟩ := hB
 unfold scOk Sc.d
 dsimp only at hg hr ht hh b1 b2 b3 b4 ⊢
 rw [List.length_map, List.length_map]
 refine calls_val env mixed Tryz.func15 has15 Tryz.ntmps15 [.agg #[iv sl, iv ro, iv su, .slice go G.length gc, .slice to T.length tc]] (by simp) ?_
 by_cases hp : (1 ≤ sl ∧ sl ≤ 40) ∧ (1 ≤ ro ∧ ro ≤ 6) ∧ (1 ≤ su ∧ su ≤ 6) ∧ G.length ≤ 8 ∧ T.length ≤ 8
 case neg =>
  have : (inB sl 1 40 && (inB ro 1 6 && (inB su 1 6 && (decide (G.length ≤ 8) && (decide (T.length ≤ 8) && ((G.map Rw.xs).all (grB su) && (T.map Tc.d).all (teB su))))))) = false := by
   rw [Bool.eq_false_iff]
   intro hc
   simp only [Bool.and_eq_true, inB_iff, decide_eq_true_eq] at hc
   exact hp ⟨hc.1, hc.2.1, hc.2.2.1, hc.2.2.2.1, hc.2.2.2.2.1⟩
  rw [this]
  repeat'
   conv => whnf
   first
    |refine zB ?_|refine zD ?_|refine splT ?_|refine splNot ?_
    |((first|refine splIn ?_ ?_|refine splD ?_ ?_) <;> intro hc <;> first|(exfalso; omega)|skip)
    |((with_reducible show CallEv _ _ 50 ..); refine callE (fun β w' hbw => In_ok _ _ _ _) ?_)
  all_goals exact ⟨fun β => rfl, fun w' h => h⟩
 obtain ⟨p1, p2, p3, p4, p5⟩ := hp
 rw [inB_iff.2 p1, inB_iff.2 p2, inB_iff.2 p3, decide_eq_true p4, decide_eq_true p5]
 simp only [Bool.true_and]
 repeat'
  conv => whnf
  first
   |refine zB ?_|refine zD ?_|refine splNot ?_
   |((first|refine splIn ?_ ?_|refine splD ?_ ?_) <;> intro hc <;> first|(exfalso; omega)|skip)
   |((with_reducible show CallEv _ _ 50 ..); refine callE (fun β w' hbw => In_ok _ _ _ _) ?_)
 refine loopE (fun k : Nat => [(1, .ptr 0 0), (3, .v (iv k))]) (fun _ => [(0, .cells [.v (iv sl), .v (iv ro), .v (iv su), .v (.slice go G.length gc), .v (.slice to T.length tc)] 25)]) (fun k => k ≤ G.length ∧ ((G.take k).map Rw.xs).all (grB su) = true) (fun k => G.length - k) 0 ⟨Nat.zero_le _, rfl⟩ ⟨rfl, rfl, trivial⟩ ⟨rfl, trivial⟩ (fun _ => ⟨rfl, rfl⟩) ?_
 intro k ⟨hk, hall⟩
 rcases Nat.lt_or_ge k G.length with hkl | hkl
 · obtain ⟨⟨ro', rc, xs⟩, hx⟩ : ∃ b, G[k]? = some b := ⟨_, List.getElem?_eq_getElem hkl⟩
   obtain ⟨_, ad, rfl, _⟩ := hg.ptr (by omega)
   have hrr := hr _ (List.mem_of_getElem? hx)
   have hrb := b2 _ (List.mem_of_getElem? hx)
   change Rd 1 iF (.slice ro' xs.length rc) xs w at hrr
   dsimp only at hrb
   have hat := all_mapT (f := Rw.xs) (p := grB su) hx
   rw [hall, Bool.true_and] at hat
   have hno := all_mapN (f := Rw.xs) (p := grB su) hx
   dsimp only at hat hno
   have e0 := fun (w' : World) hw' => rd_ati (hg.below (w' := w') hw') hx
   have c51 := fun (w' : World) (hw : Below w.heap.size w w') => everyRX_ok xs ro' rc 0 20 w' (hrr.below hw) hrb
   by_cases hok : (xs.length : Int) = su ∧ evB xs 0 20 = true
   · have hgr : grB su xs = true := by unfold grB; rw [decide_eq_true hok.1, hok.2]; rfl
     rw [hgr] at hat
     rw [hok.2] at c51
     have hok1 := hok.1
     repeat'
      conv => whnf
      first
       |refine zA ?_|refine zB ?_|refine zD ?_|refine zF ?_|refine zG ?_|refine splF ?_|refine splNot ?_
       |(refine splD ?_ ?_ <;> intro hc <;> first|(exfalso; omega)|skip)
       |refine eL [.slice ro' xs.length rc] ⟨⟨rfl, fun w' hw' => e0 w' hw'⟩, ?_⟩
       |((with_reducible show CallEv _ _ 51 ..); refine callE (fun β w' hbw => c51 _ hbw) ?_)
     all_goals exact ⟨k + 1, ⟨by omega, hat⟩, by omega, Ent.weak rfl ⟨rfl, rfl, trivial⟩ ⟨rfl, trivial⟩ fun _ h => h⟩
   · have hgr : grB su xs = false := by
      rw [Bool.eq_false_iff]; intro hc; unfold grB at hc; rw [Bool.and_eq_true, decide_eq_true_eq] at hc; exact hok hc
     rw [hno hgr, Bool.false_and]
     have hok' : evB xs 0 20 = true → (xs.length : Int) ≠ su := fun h1 h2 => hok ⟨h2, h1⟩
     clear hok
     cases hev : evB xs 0 20
     all_goals rw [hev] at c51 hok'
     all_goals first|(have hok' := hok' rfl)|skip
     all_goals skip
     repeat'
      conv => whnf
      first
       |refine zA ?_|refine zB ?_|refine zD ?_|refine zG ?_|refine splT ?_|refine splNot ?_
       |(refine splD ?_ ?_ <;> intro hc <;> first|(exfalso; omega)|skip)
       |refine eL [.slice ro' xs.length rc] ⟨⟨rfl, fun w' hw' => e0 w' hw'⟩, ?_⟩
       |((with_reducible show CallEv _ _ 51 ..); refine callE (fun β w' hbw => c51 _ hbw) ?_)
     all_goals exact ⟨fun β => rfl, fun w' h => h⟩
 rw [List.take_of_length_le hkl] at hall
 rw [hall, Bool.true_and]
 clear hall
 repeat'
  conv => whnf
  first
   |refine zB ?_
   |(refine splD ?_ ?_ <;> intro hc <;> first|(exfalso; omega)|skip)
 refine loopE (fun k : Nat => [(1, .ptr 0 0), (4, .v (iv k))]) (fun _ => [(0, .cells [.v (iv sl), .v (iv ro), .v (iv su), .v (.slice go G.length gc), .v (.slice to T.length tc)] 25)]) (fun k => k ≤ T.length ∧ ((T.take k).map Tc.d).all (teB su) = true) (fun k => T.length - k) 0 ⟨Nat.zero_le _, rfl⟩ ⟨rfl, rfl, trivial⟩ ⟨rfl, trivial⟩ (fun _ => ⟨rfl, rfl⟩) ?_
 clear hk hkl
 intro k ⟨hk, hall⟩
 rcases Nat.lt_or_ge k T.length with hkl | hkl
 · obtain ⟨⟨ro', rc, xs, hh'⟩, hx⟩ : ∃ b, T[k]? = some b := ⟨_, List.getElem?_eq_getElem hkl⟩
   obtain ⟨_, ad, rfl, _⟩ := ht.ptr (by omega)
   have hrr := hh _ (List.mem_of_getElem? hx)
   have hrb := b4 _ (List.mem_of_getElem? hx)
   dsimp only at hrr hrb
   have hat := all_mapT (f := Tc.d) (p := teB su) hx
   rw [hall, Bool.true_and] at hat
   have hno := all_mapN (f := Tc.d) (p := teB su) hx
   have e0 := fun (w' : World) hw' => rd_fld (ht.below (w' := w') hw') hx
   have c52 := fun (w' : World) (hw : Below w.heap.size w w') => risingX_ok su xs ro' rc w' (hrr.below hw) hrb (by omega)
   have c50 := fun (w' : World) => In_ok hh' 0 40 w'
   have hte : teB su (Tc.d ⟨ro', rc, xs, hh'⟩) = (subB su xs && inB hh' 0 40) := rfl
   rw [hte] at hat hno
   cases q1 : subB su xs <;> cases q2 : inB hh' 0 40
   all_goals rw [q1] at c52
   all_goals rw [q2] at c50
   all_goals first|rw [hno (by rw [q1, q2]; rfl)]|rw [q1, q2] at hat
   all_goals skip
   repeat'
    conv => whnf
    first
     |refine zA ?_|refine zB ?_|refine zD ?_|refine zF ?_|refine zG ?_|refine splT ?_|refine splF ?_
     |(refine splD ?_ ?_ <;> intro hc <;> first|(exfalso; omega)|skip)
     |refine eL [.slice ro' xs.length rc] ⟨⟨rfl, fun w' hw' => e0 w' hw' 0 _ rfl⟩, ?_⟩
     |refine eL [iv hh'] ⟨⟨rfl, fun w' hw' => e0 w' hw' 1 _ rfl⟩, ?_⟩
     |((with_reducible show CallEv _ _ 52 ..); refine callE (fun β w' hbw => c52 _ hbw) ?_)
     |((with_reducible show CallEv _ _ 50 ..); refine callE (fun β w' hbw => c50 _) ?_)
   all_goals first|exact ⟨fun β => rfl, fun w' h => h⟩|exact ⟨k + 1, ⟨by omega, hat⟩, by omega, Ent.weak rfl ⟨rfl, rfl, trivial⟩ ⟨rfl, trivial⟩ fun _ h => h⟩
 rw [List.take_of_length_le hkl] at hall
 rw [hall]
 repeat'
  conv => whnf
  first
   |refine zB ?_
   |(refine splD ?_ ?_ <;> intro hc <;> first|(exfalso; omega)|skip)
 all_goals exact ⟨fun β => rfl, fun w' h => h⟩
theorem ScX.ok {s : Sc} (h : scOk s.d = true) : ScB s := by
 obtain ⟨h1, h2, h3, h4, h5, h6, h7⟩ := scOk_iff.1 h
 unfold Sc.d at h3 h4 h5 h6 h7
 dsimp only at h3 h4 h5 h6 h7
 rw [List.length_map] at h4 h5
 refine ⟨by omega, fun r hr => ?_, by omega, fun t ht => ?_⟩
 · have := List.all_eq_true.1 h6 r.xs (List.mem_map_of_mem hr)
   unfold grB at this
   simp only [Bool.and_eq_true, decide_eq_true_eq] at this
   omega
 · have := List.all_eq_true.1 h7 (Tc.d t) (List.mem_map_of_mem ht)
   unfold teB at this
   simp only [Bool.and_eq_true] at this
   have h8 := (sub_in h this.1).1
   have : (Tc.d t).1 = t.T := rfl
   rw [this] at h8
   omega
end Go.Proofs.YtkbfcofifhngfaaGreat
namespace Go.Proofs.YtkbfcofifhngfaaGreat.Tx
open Go Go.RowKit
def chainB (ops : List Oper) (c : Nat) : Bool := (List.range ops.length).all fun j => Nat.blt j c || lastB ops j
section
variable {X : Cx}
theorem region_mid {F : Fence} {n : Nat} {P : Program} {id : Nat} {ops : Array Oper} {Q : Exit → Act → World → Prop} {L : List (Oper × Ef)} {r : List Oper} {σ : Sg} {a : Act} {w : World} (hm : P.follows .mixedOrders = true)
 (hL : ops.toList = (L ++ r.map fun o => (o, efL)).map (·.1)) (hp : Path F n P ops L σ) (hd : DrawOK (L ++ r.map fun o => (o, efL)) σ) (hch : chainB ops.toList L.length = true) (hs : Sat X σ a w)
 (hq : ∀ a w, Sat X (fin L σ) a w → wpOpsIn F n P ops Q (List.range' L.length r.length) a w) : (Code.region id ops true).wpIn F n P Q a w := by
 refine wpIn_region_any hm ?_
 generalize hLL : (L ++ r.map fun o => (o, efL)) = LL at *
 have hlen : LL.length = L.length + r.length := by rw [← hLL]; simp
 have hsz : ops.size = LL.length := by
  have := congrArg List.length hL
  simpa using this
 have hget : ∀ i : Nat, ops[i]? = (LL[i]?).map (fun p : Oper × Ef => p.1) := fun i => by rw [← List.getElem?_map, ← hL, Array.getElem?_toList]
 have hwait : ∀ j, L.length ≤ j → j < LL.length → ∀ k, k < j → ((bef (LL.map (·.1)) []).getD j 0).testBit k = true := fun j hj hjl k hk => by
  rw [hL] at hch
  unfold chainB at hch
  have := List.all_eq_true.1 hch j (List.mem_range.2 (by simpa using hjl))
  have hnb : Nat.blt j L.length = false := by
   cases hb : Nat.blt j L.length with
   | false => rfl
   | true => rw [Nat.blt_eq] at hb; omega
  rw [hnb, Bool.false_or] at this
  unfold lastB at this
  exact List.all_eq_true.1 this k (List.mem_range.2 hk)
 have key2 : ∀ (m j : Nat) (listed : Array Bool) (a : Act) (w : World), L.length ≤ j → j + m = LL.length → listed.size = LL.length → (∀ k, k < LL.length → listed.getD k false = decide (k < j)) →
  wpOpsIn F n P ops Q (List.range' j m) a w → wpAnyIn F n P .any ops Q m listed a w := by
  intro m
  induction m with
  | zero =>
   intro j listed a w hj hjm hls hlk h
   refine ⟨?_, h⟩
   rw [List.eq_nil_iff_forall_not_mem]
   intro i hi
   obtain ⟨h0, o2, ho2, _⟩ := mem_ready.1 hi
   have hi2 := (Array.getElem?_eq_some_iff.1 ho2).1
   have := hlk i (by omega)
   rw [decide_eq_true (by omega)] at this
   rw [getD_tf (by omega), this] at h0
   cases h0
  | succ m ih =>
   intro j listed a w hj hjm hls hlk h
   have hj0 : listed.getD j false = false := by rw [hlk j (by omega)]; exact decide_eq_false (by omega)
   refine ⟨fun hr => ?_, fun i hi => ?_⟩
   · have := all_listed hL hd hls hr j (by omega)
     rw [hj0] at this; cases this
   obtain ⟨h0, o', ho, hall⟩ := mem_ready.1 hi
   have hiL : i < LL.length := by rw [← hsz]; exact (Array.getElem?_eq_some_iff.1 ho).1
   have h0' : listed.getD i false = false := by rw [← getD_tf (by omega)]; exact h0
   have hij : j ≤ i := by
    rw [hlk i hiL] at h0'
    have := of_decide_eq_false h0'
    omega
   obtain rfl : i = j := by
    refine Nat.le_antisymm (Nat.le_of_not_lt fun hlt => ?_) hij
    have hb := hwait i (by omega) hiL j hlt
    have hoi : (LL.map (·.1))[i]? = some o' := by
     have := hget i
     rw [ho] at this
     rw [List.getElem?_map]; exact this.symm
    have hdown : ∀ q, listed.getD q false = true → ∀ o, (LL.map (·.1))[q]? = some o → ∀ e ∈ o.after, Region.binds .any e = true → listed.getD e.on false = true := fun q hq2 o hoq e he hb => by
     have hql : q < LL.length := by simpa using (List.getElem?_eq_some_iff.1 hoq).1
     have h1 := edgesB_get _ 0 q o hd.edges hoq e he hb
     have h2 := hlk q hql
     rw [hq2] at h2
     have h2 := of_decide_eq_true h2.symm
     rw [hlk e.on (by omega)]
     exact decide_eq_true (by omega)
    have := (bef_listed hd.edges (fun j => listed.getD j false = true) hdown i i (Nat.le_refl _) o' hoi hall j hb).1
    rw [hj0] at this; cases this
   rw [List.range'_succ, wpOpsIn_cons] at h
   refine wpOpIn_mono (fun a' w' h' => ih (i + 1) (listed.setIfInBounds i true) a' w' (by omega) (by omega) (by simpa using hls) (fun k hk => ?_) h') h
   by_cases hki : k = i
   · subst hki
     rw [decide_eq_true (by omega)]
     have hks : k < listed.size := by omega
     simp [Array.getD_eq_getD_getElem?, hks]
   · rw [getD_set_ne false (fun h => hki h.symm), hlk k hk]
     by_cases hkj : k < i
     · rw [decide_eq_true hkj, decide_eq_true (by omega)]
     · rw [decide_eq_false hkj, decide_eq_false (by omega)]
 have done : ∀ (fuel : Nat) (listed : Array Bool) (a : Act) (w : World), listed.size = LL.length → listed.toList.countP (! ·) = fuel →
  (∀ j, L.length ≤ j → listed.getD j false = false) → Sat X (foldS LL listed.toList σ) a w → (∀ k, k < L.length → listed.getD k false = true) → wpAnyIn F n P .any ops Q fuel listed a w := by
  intro fuel listed a w hls hc hN hsat hall0
  have hfold : foldS LL listed.toList σ = fin L σ := by
   have e : listed.toList = List.replicate L.length true ++ List.replicate (LL.length - L.length) false := by
    refine List.ext_getElem? fun k => ?_
    rw [List.getElem?_append]
    by_cases hk : k < L.length
    · have h1 := hall0 k hk
      have hks : k < listed.size := by omega
      simp only [Array.getD_eq_getD_getElem?, Array.getElem?_eq_getElem hks, Option.getD_some] at h1
      simp [hk, hks, h1]
    · rw [if_neg (by simpa using hk), List.length_replicate]
      by_cases hk2 : k < LL.length
      · have h1 := hN k (by omega)
        have hks : k < listed.size := by omega
        simp only [Array.getD_eq_getD_getElem?, Array.getElem?_eq_getElem hks, Option.getD_some] at h1
        rw [List.getElem?_replicate, if_pos (by omega), Array.getElem?_toList, Array.getElem?_eq_getElem hks, h1]
      · rw [List.getElem?_eq_none (by rw [Array.length_toList]; omega), List.getElem?_eq_none (by rw [List.length_replicate]; omega)]
   rw [e, foldS_take _ _ _ (by omega), ← hLL, List.take_left']
   rfl
  rw [hfold] at hsat
  have hcnt : fuel = r.length := by
   rw [← hc]
   have e : listed.toList = List.replicate L.length true ++ List.replicate r.length false := by
    refine List.ext_getElem? fun k => ?_
    rw [List.getElem?_append]
    by_cases hk : k < L.length
    · have h1 := hall0 k hk
      have hks : k < listed.size := by omega
      simp only [Array.getD_eq_getD_getElem?, Array.getElem?_eq_getElem hks, Option.getD_some] at h1
      simp [hk, hks, h1]
    · rw [if_neg (by simpa using hk), List.length_replicate]
      by_cases hk2 : k < LL.length
      · have h1 := hN k (by omega)
        have hks : k < listed.size := by omega
        simp only [Array.getD_eq_getD_getElem?, Array.getElem?_eq_getElem hks, Option.getD_some] at h1
        rw [List.getElem?_replicate, if_pos (by omega), Array.getElem?_toList, Array.getElem?_eq_getElem hks, h1]
      · rw [List.getElem?_eq_none (by rw [Array.length_toList]; omega), List.getElem?_eq_none (by rw [List.length_replicate]; omega)]
   rw [e]
   simp [List.countP_append, List.countP_replicate]
  subst hcnt
  refine key2 r.length L.length listed a w (Nat.le_refl _) (by omega) hls (fun k hk => ?_) (hq a w hsat)
  by_cases hkL : k < L.length
  · rw [hall0 k hkL, decide_eq_true hkL]
  · rw [hN k (by omega), decide_eq_false hkL]
 have key : ∀ (fuel : Nat) (listed : Array Bool) (a : Act) (w : World), listed.size = LL.length → listed.toList.countP (! ·) = fuel →
  (∀ j, listed.getD j false = true → ∀ o', (LL.map (·.1))[j]? = some o' → ∀ e ∈ o'.after, Region.binds .any e = true → listed.getD e.on false = true) →
  (∀ j, L.length ≤ j → listed.getD j false = false) → Sat X (foldS LL listed.toList σ) a w → wpAnyIn F n P .any ops Q fuel listed a w := by
  intro fuel
  induction fuel with
  | zero =>
   intro listed a w hls hc hdown hN hsat
   refine done 0 listed a w hls hc hN hsat fun k hk => ?_
   rw [List.countP_eq_zero] at hc
   have hks : k < listed.size := by omega
   have := hc listed[k] (by simp)
   simp only [Array.getD_eq_getD_getElem?, Array.getElem?_eq_getElem hks, Option.getD_some]
   simpa using this
  | succ fuel ih =>
   intro listed a w hls hc hdown hN hsat
   by_cases hall0 : ∀ k, k < L.length → listed.getD k false = true
   · exact done (fuel + 1) listed a w hls hc hN hsat hall0
   obtain ⟨k0, hk0⟩ := Classical.not_forall.1 hall0
   obtain ⟨hk0, hk1⟩ := Classical.not_imp.1 hk0
   refine ⟨fun hr => absurd (all_listed hL hd hls hr k0 (by omega)) hk1, fun i hi => ?_⟩
   obtain ⟨h0, o', ho, hall⟩ := mem_ready.1 hi
   have hiL : i < LL.length := by rw [← hsz]; exact (Array.getElem?_eq_some_iff.1 ho).1
   have h0' : listed.getD i false = false := by rw [← getD_tf (by omega)]; exact h0
   have hoi : (LL.map (·.1))[i]? = some o' := by
    have := hget i
    rw [ho] at this
    rw [List.getElem?_map]; exact this.symm
   have hiL2 : i < L.length := Nat.lt_of_not_le fun hge => by
    have hb := hwait i hge hiL k0 (by omega)
    exact hk1 (bef_listed hd.edges (fun j => listed.getD j false = true) hdown i i (Nat.le_refl _) o' hoi hall k0 hb).1
   obtain ⟨E, hE0⟩ : ∃ E, L[i]? = some (o', E) := by
    have := hget i
    rw [ho, ← hLL, List.getElem?_append_left hiL2, List.getElem?_eq_getElem hiL2] at this
    simp only [Option.map_some, Option.some.injEq] at this
    exact ⟨(L[i]).2, by rw [List.getElem?_eq_getElem hiL2, this]⟩
   have hE : LL[i]? = some (o', E) := by rw [← hLL, List.getElem?_append_left hiL2]; exact hE0
   have hlink : Link F n P ops o' (fin (LL.take i) σ) E := by
    rw [← hLL, List.take_append_of_le_length (by omega)]
    exact Path.link L σ i (o', E) hp hE0
   unfold wpOpIn
   rw [ho]
   refine (any_norm (Q := Q) hL hd hls hdown h0' hall hE hlink hsat).mono fun a' w' hs' => ?_
   refine ih (listed.setIfInBounds i true) a' w' (by simpa using hls) (countP_next (by omega) h0' hc) (down_next hoi hdown hall) (fun j hj => ?_) hs'
   rw [getD_set_ne false (fun h => by omega)]
   exact hN j hj
 have hrep : ∀ j, (Array.replicate ops.size false).getD j false = false := fun j => by
  simp only [Array.getD_eq_getD_getElem?, Array.getElem?_replicate]
  split <;> rfl
 obtain ⟨β, Dm, hs⟩ := hs
 refine key ops.size (Array.replicate ops.size false) a _ (by simp [hsz]) (by simp [List.countP_replicate]) (fun j hj => by rw [hrep] at hj; cases hj) (fun j _ => hrep j) ⟨β, Dm, ?_⟩
 rw [foldS_none]
 · exact hs.drawn _
 · intro b hb
   simp only [Array.toList_replicate, List.mem_replicate] at hb
   exact hb.2
end
section
variable {P : Program} (T : Env P)
def vM (hk : Nat → Bool) (c : Nat) (L0 : List Oper) : List Oper → Nat → Sg → List (Oper × Ef) → (Sg → Prop) → Prop
 | [], _, _, _, _ => False
 | o :: r, j, σ, acc, K => bif Nat.beq j c then (drawB (acc ++ (o :: r).map fun o => (o, efL)) = true ∧ vOps T L0 (o :: r) j σ K) else
  match dstB o σ.nt with
  | true => bif hk j then (o.guard = none ∧ OpEv P o [] σ fun E => appK σ o.dst E fun σ' => vM hk c L0 r (j + 1) σ' (acc ++ [(o, E)]) K)
   else vO T L0 o σ (fun E => gSplit (isG L0 j) E fun E => appK σ o.dst E fun σ' => vM hk c L0 r (j + 1) σ' (acc ++ [(o, E)]) K) none
  | false => False
theorem vM_spec {F : Fence} {n : Nat} {ops : Array Oper} {L0 : List Oper} {hk : Nat → Bool} {c : Nat} (hF : Wd F) (hL : ops.toList = L0) : ∀ (l : List Oper) (j : Nat) (σ : Sg) (acc : List (Oper × Ef)) (K : Sg → Prop), σ.Ok → vM T hk c L0 l j σ acc K →
 ∃ (L : List (Oper × Ef)) (r : List Oper), l = L.map (·.1) ++ r ∧ Path F n P ops L σ ∧ (fin L σ).Ok ∧ j + L.length = c ∧ (∀ p ∈ L, ∃ m, σ.nb ≤ m ∧ p.2.fr = List.range' m p.2.fr.length) ∧ drawB (acc ++ L ++ r.map fun o => (o, efL)) = true ∧ vOps T L0 r c (fin L σ) K
 | [], _, _, _, _, _, h => h.elim
 | o :: r, j, σ, acc, K, hσ, h => by
  simp only [vM] at h
  cases hb : Nat.beq j c with
  | true =>
   rw [hb, cond_true] at h
   have := Nat.eq_of_beq_eq_true hb
   subst this
   exact ⟨[], o :: r, rfl, trivial, hσ, rfl, fun p hp => (by cases hp), by rw [List.append_nil]; exact h.1, h.2⟩
  | false =>
   rw [hb, cond_false] at h
   split at h
   case h_2 => exact h.elim
   rename_i hd
   have hd := dstB_spec hd
   have next : ∀ (E' : Ef), EfOK σ E' → OpOK F n P ops o σ E' → (appK σ o.dst E' fun σ' => vM T hk c L0 r (j + 1) σ' (acc ++ [(o, E')]) K) → ∃ (L : List (Oper × Ef)) (r' : List Oper), o :: r = L.map (·.1) ++ r' ∧ Path F n P ops L σ ∧ (fin L σ).Ok ∧ j + L.length = c ∧ (∀ p ∈ L, ∃ m, σ.nb ≤ m ∧ p.2.fr = List.range' m p.2.fr.length) ∧ drawB (acc ++ L ++ r'.map fun o => (o, efL)) = true ∧ vOps T L0 r' c (fin L σ) K := fun E' h5 h6 h4 => by
    obtain ⟨L, r', g1, g2, g3, g4, g5, g6, g7⟩ := vM_spec hF hL r (j + 1) _ _ K (hσ.app (o := o) h5 hd) (appK_spec h4)
    refine ⟨(o, E') :: L, r', by simp [g1], ⟨h5.link hσ.wf hd h6, g2⟩, g3, by simp only [List.length_cons]; omega, fun p hp => ?_, by simpa using g6, g7⟩
    rcases List.mem_cons.1 hp with rfl | hp
    · exact ⟨σ.nb, Nat.le_refl _, h5.fr⟩
    · obtain ⟨m, q1, q2⟩ := g5 p hp
      exact ⟨m, Nat.le_trans (Nat.le_add_right _ _) q1, q2⟩
   cases hh : hk j with
   | true =>
    rw [hh, cond_true] at h
    obtain ⟨hg, ⟨E, h1, hgs, hnd, h2, h3⟩⟩ := h
    obtain ⟨E2, hK, hE, hO⟩ := Good.run (n := n) (ops := ops) (K := fun E => appK σ o.dst E fun σ' => vM T hk c L0 r (j + 1) σ' (acc ++ [(o, E)]) K) hF hσ.lt (.inl hg : Gd ops o [] σ) h3 (efB_spec h1) hgs hnd h2
    exact next E2 hE hO hK
   | false =>
    rw [hh, cond_false] at h
    rcases vO_spec T (n := n) hF hL hσ h with ⟨E, h1, h2, h3⟩ | ⟨kf, hkf, _⟩
    case inr => cases hkf
    obtain ⟨E', h4, h5, h6⟩ := gSplit_spec h1 h2 h3
    exact next E' h5 h6 h4
theorem VC_mid (hm : P.follows .mixedOrders = true) {id : Nat} {ops : Array Oper} {σ : Sg} {Φ : Exit → Sg → Prop} (hk : Nat → Bool) (c : Nat) (hch : chainB ops.toList c = true) (hv : vM T hk c ops.toList ops.toList 0 σ [] (Φ .normal)) : VC P (.region id ops true) σ Φ := by
 intro F n X a w hF hlp hok hsat
 obtain ⟨L, r, g1, g2, g3, g4, g5, g6, g7⟩ := vM_spec T (F := F) (n := n) (ops := ops) hF rfl _ 0 σ [] _ hok hv
 rw [Nat.zero_add] at g4
 subst g4
 rw [List.nil_append] at g6
 simp only [drawB, Bool.and_eq_true] at g6
 have hmr : (r.map fun o => (o, efL)).map (·.1) = r := by rw [List.map_map]; exact List.map_id _
 refine region_mid hm (L := L) (r := r) (σ := σ) (by rw [List.map_append, hmr]; exact g1) g2 ⟨g6.1, g6.2, fun p hp => ?_⟩ hch hsat fun a w hs' => ?_
 · rcases List.mem_append.1 hp with hp | hp
   · obtain ⟨m, q1, q2⟩ := g5 p hp
     exact hok.wf.av q1 q2
   · obtain ⟨o, _, rfl⟩ := List.mem_map.1 hp
     exact hok.wf.av (m := σ.nb) (Nat.le_refl _) rfl
 · refine vOps_sound T hF rfl (fun σ' a w hK hok' hs => ⟨σ', hK, hok', hs⟩) r L.length _ a w (fun i => ?_) g3 g7 hs'
   have h1 : ops[L.length + i]? = (L.map (·.1) ++ r)[L.length + i]? := by rw [← g1, Array.getElem?_toList]
   rw [h1, List.getElem?_append_right (by simp), List.length_map, Nat.add_sub_cancel_left]
end
end Go.Proofs.YtkbfcofifhngfaaGreat.Tx
