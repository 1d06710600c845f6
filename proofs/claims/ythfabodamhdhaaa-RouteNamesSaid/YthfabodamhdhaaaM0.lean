/- Maps that are own blocks: a look-up, a store, a new map; keys that are structs of an unsigned and two signed numbers. -/
import Derived.Test.YthfabodamhdhaaaS3
import Derived.Maps.Keyed
import Derived.DeepKeys5
import Derived.Carry
namespace Go.Proofs.Ythfabodamhdhaaa.Tx
open Go Go.RowKit
set_option linter.unusedSimpArgs false
set_option linter.unusedVariables false
def MpOk (P : Program) (k : TypeId) (H : Value → Value) : Obj → Prop
 | .map es _ => ∀ e ∈ es.toList, (∃ l, keyOf P k e.key = some l) ∧ e.val = H e.key
 | _ => False
theorem MpOk.empty (P : Program) (k : TypeId) (H : Value → Value) : MpOk P k H (.map #[] 0) := fun e he => by simp at he
theorem MpOk.look {P : Program} {t k e : TypeId} {H : Value → Value} {o : Obj} (h : MpOk P k H o) (K : Maps.Keyed P k) (ht : P.underlying t = some (.map k e)) {w : World} {b : Nat} (hb : w.heap[b]? = some o) {z : Value} (hz : (zeroValue e).run P w = .ok z w) {key : Value} {kl : Lit} (hkey : keyOf P k key = some kl) :
 (Instr.lookup t (.map (some b)) key true).run P w = .ok (.tuple #[z, .bool false]) w ∨ (Instr.lookup t (.map (some b)) key true).run P w = .ok (.tuple #[H key, .bool true]) w := by
 cases o with
 | map es clock =>
  rcases K.find w hkey es.toList (fun e he => (h e he).1) with ⟨h1, h2⟩ | ⟨j, e0, h1, h2, h3⟩
  · exact .inl (by simp [Instr.lookup, run_underlying ht, MapKept.run_getObj_map hb, K.check w _ hkey, h1, hz, Result.andThen])
  · have hv := (h e0 (List.mem_of_getElem? h2)).2
    rw [h3] at hv
    exact .inr (by simp [Instr.lookup, run_underlying ht, MapKept.run_getObj_map hb, K.check w _ hkey, h1, Result.andThen, hv])
 | _ => exact h.elim
theorem MpOk.put {P : Program} {t k e : TypeId} {H : Value → Value} {o : Obj} (h : MpOk P k H o) (K : Maps.Keyed P k) (ht : P.underlying t = some (.map k e)) {w : World} {b : Nat} (hb : w.heap[b]? = some o) {key : Value} {kl : Lit} (hkey : keyOf P k key = some kl) :
 ∃ o', (Instr.mapUpdate t (.map (some b)) key (H key)).run P w = .ok () (ChangeMaps.setBlock w b o') ∧ IsMem o' ∧ MpOk P k H o' := by
 cases o with
 | map es clock =>
  rcases K.find w hkey es.toList (fun e he => (h e he).1) with ⟨h1, h2⟩ | ⟨j, e0, h1, h2, h3⟩
  · refine ⟨.map (es.push ⟨key, H key, clock⟩) (clock + 1), ?_, trivial, ?_⟩
    · simp [Instr.mapUpdate, run_underlying ht, MapKept.run_getObj_map hb, K.check w false hkey, h1, MapKept.run_setObj_map _ hb, Result.andThen, ChangeMaps.setBlock]
    · intro e he
      simp only [Array.toList_push, List.mem_append, List.mem_singleton] at he
      rcases he with he | rfl
      · exact h e he
      · exact ⟨⟨kl, hkey⟩, rfl⟩
  · have hj : es[j]? = some e0 := by simpa using h2
    refine ⟨.map (es.modify j (fun e' => { e' with key := key, val := H key })) clock, ?_, trivial, ?_⟩
    · simp [Instr.mapUpdate, run_underlying ht, MapKept.run_getObj_map hb, K.check w false hkey, h1, hj, h3, K.stays w hkey, MapKept.run_setObj_map _ hb, Result.andThen, ChangeMaps.setBlock]
    · intro e he
      obtain ⟨i, hi⟩ := List.mem_iff_getElem?.1 he
      rw [Array.getElem?_toList, Array.getElem?_modify] at hi
      split at hi
      · subst_vars
        rw [hj] at hi
        simp only [Option.map_some, Option.some.injEq] at hi
        subst hi
        exact ⟨⟨kl, hkey⟩, rfl⟩
      · exact h e (List.mem_iff_getElem?.2 ⟨i, by rw [Array.getElem?_toList]; exact hi⟩)
 | _ => exact h.elim
theorem sb_same {w : World} {b : Nat} {o : Obj} (hb : w.heap[b]? = some o) (o' : Obj) : (ChangeMaps.setBlock w b o').heap[b]? = some o' := by
 simp [ChangeMaps.setBlock, (Array.getElem?_eq_some_iff.1 hb).1]
theorem sb_other {w : World} {b i : Nat} (o' : Obj) (h : i ≠ b) : (ChangeMaps.setBlock w b o').heap[i]? = w.heap[i]? := by
 simp only [ChangeMaps.setBlock]
 exact Array.getElem?_setIfInBounds_ne (fun e => h e.symm)
theorem lookS {P : Program} (T : Env P) {dst : Option Tmp} {ty t k e : TypeId} {pos : String} {after : Array Edge} {gd : Option (Nat × Bool)} {gs : List Nat} {σ : Sg} {K : Ef → Prop} {ks : KT} {m x : Operand} {bm i : Nat} {sx : SV} {H : Value → Value} (L : Maps.Keyed P k) {z key v : Value} {kl : Lit}
 (hm : gv σ m = some (.v (.map (some bm)))) (hx : gv σ x = some sx) (hsx : ∀ β, sx.c β = key) (hi : lk σ.m i = some (.obj bm (MpOk P k H))) (ht : P.underlying t = some (.map k e)) (hz : ∀ w, (zeroValue e).run P w = .ok z w) (hkey : keyOf P k key = some kl) (hv : H key = v)
 (h1 : ks (.v (.tuple #[z, .bool false])) σ) (h2 : ks (.v (.tuple #[v, .bool true])) σ) : OpEvS P ⟨dst, .lookup t m x true, ty, pos, after, gd⟩ gs σ K (some ks) := by
 subst hv
 refine .st ks rfl rfl fun X β D a w hok hs => ?_
 obtain ⟨hb, o, ho, _, hp⟩ := hs.m i _ hi
 rw [hb] at ho
 have hse := hs.sees ⟨.v undef, [], [], os m ++ os x, []⟩
 have e1 := gv_eval hse hm (fun k hk => by simp [hk])
 have e2 := gv_eval hse hx (fun k hk => by simp [hk])
 rcases hp.look L ht ho (hz w) hkey with hr | hr
 · refine ⟨_, σ, β, D, w, ?_, h1, rfl, hok, rfl, hs⟩
   simp only [execOp, e1, e2, hsx, SV.c, Sem.run_bind, Sem.run_pure, Result.andThen_ok, hr]
 · refine ⟨_, σ, β, D, w, ?_, h2, rfl, hok, rfl, hs⟩
   simp only [execOp, e1, e2, hsx, SV.c, Sem.run_bind, Sem.run_pure, Result.andThen_ok, hr]
theorem updE {P : Program} (T : Env P) {dst : Option Tmp} {ty t k e : TypeId} {pos : String} {after : Array Edge} {gd : Option (Nat × Bool)} {gs : List Nat} {σ : Sg} {K : Ef → Prop} {KF : Option KT} {m x y : Operand} {bm : Nat} (i : Nat) {sx : SV} {H : Value → Value} (L : Maps.Keyed P k) {key v : Value} {kl : Lit}
 (hm : gv σ m = some (.v (.map (some bm)))) (hx : gv σ x = some sx) (hsx : ∀ β, sx.c β = key) (hy : gv σ y = some (.v v)) (hi : lk σ.m i = some (.obj bm (MpOk P k H))) (ht : P.underlying t = some (.map k e)) (hkey : keyOf P k key = some kl) (hv : v = H key)
 (hB : efB σ ⟨.v undef, [], [(i, .obj bm (MpOk P k H))], gs ++ (os m ++ (os x ++ os y)), [i]⟩ = true) (hK : K ⟨.v undef, [], [(i, .obj bm (MpOk P k H))], gs ++ (os m ++ (os x ++ os y)), [i]⟩) : OpEvS P ⟨dst, .mapUpdate t m x y, ty, pos, after, gd⟩ gs σ K KF := by
 refine .mk _ hB (fun k hk => by simp [hk]) rfl (fun β a w hss => ?_) hK
 obtain ⟨hb, o, ho, _, hp⟩ := hss.m i (by simp) _ hi
 rw [hb] at ho
 have e1 := gv_eval hss hm (fun k hk => by simp [hk])
 have e2 := gv_eval hss hx (fun k hk => by simp [hk])
 have e3 := gv_eval hss hy (fun k hk => by simp [hk])
 obtain ⟨o', hr, ho1, ho2⟩ := hp.put L ht ho hkey
 have hsame := sb_same ho o'
 refine ⟨β, ChangeMaps.setBlock w bm o', ⟨fun _ _ => rfl, ⟨rfl, rfl, rfl, by simp [ChangeMaps.setBlock], fun b hbl hn => ?_⟩, fun j bk hj => ?_, fun j hj => (by cases hj), fun j hj => (by cases hj)⟩, .inr ⟨?_, rfl⟩⟩
 · exact sb_other o' (fun e => hn ⟨i, _, List.mem_singleton.2 rfl, by simp, by rw [hb]; exact e.symm⟩)
 · simp only [List.mem_singleton, Prod.mk.injEq] at hj
   obtain ⟨rfl, rfl⟩ := hj
   exact ⟨hb, o', by rw [hb]; exact hsame, ho1, ho2⟩
 · simp only [execOp, e1, e2, e3, hsx, SV.c, hv, Sem.run_bind, Sem.run_pure, Result.andThen_ok, hr]
theorem mkMapS {P : Program} {dst : Option Tmp} {ty t k : TypeId} {pos : String} {after : Array Edge} {gd : Option (Nat × Bool)} {gs : List Nat} {nt nb : Nat} {tt : List (Nat × SV)} {m : List (Nat × Blk)} {h0 : World → Prop} {z : Gz} {K : Ef → Prop} {ks : KT} (H : Value → Value)
 (hK : ∀ n, ks (.v (.map (some n))) ⟨nt, tt, (nb, .obj n (MpOk P k H)) :: m, nb + 1, h0, z⟩) : OpEvS P ⟨dst, .makeMap t none, ty, pos, after, gd⟩ gs ⟨nt, tt, m, nb, h0, z⟩ K (some ks) := by
 refine .st ks rfl rfl fun X β D a w hok hs => ?_
 let β' : Nat → Nat := fun i => if i = nb then w.heap.size else β i
 have hlow : ∀ i, i < nb → β' i = β i := fun i hi => by
  show (if i = nb then w.heap.size else β i) = _
  rw [if_neg (by omega)]
 have e0 : β' nb = w.heap.size := if_pos rfl
 have hnew : (w.alloc (.map #[] 0)).heap[w.heap.size]? = some (.map #[] 0) := by
  show (w.heap.push _)[w.heap.size]? = _
  rw [Array.getElem?_push, if_pos rfl]
 have hold : ∀ c, c < w.heap.size → (w.alloc (.map #[] 0)).heap[c]? = w.heap[c]? := fun c hc => by
  show (w.heap.push _)[c]? = _
  rw [Array.getElem?_push, if_neg (by omega)]
 have hsz : (w.alloc (.map #[] 0)).heap.size = w.heap.size + 1 := Array.size_push ..
 have hlive : ∀ i bk, lk m i = some bk → bk.live = true → β i < w.heap.size := fun i bk hi hl => Blk.ok_lt hl (hs.m i bk hi)
 have hlk : ∀ i bk, lk ((nb, Blk.obj w.heap.size (MpOk P k H)) :: m) i = some bk → (i = nb ∧ bk = .obj w.heap.size (MpOk P k H)) ∨ (i < nb ∧ lk m i = some bk) := fun i bk hi => by
  rw [lk] at hi
  cases hb2 : Nat.beq i nb with
  | true => rw [hb2, cond_true, Option.some.injEq] at hi; exact .inl ⟨Nat.eq_of_beq_eq_true hb2, hi.symm⟩
  | false => rw [hb2, cond_false] at hi; exact .inr ⟨(hok.wf.m i bk hi).1, hi⟩
 refine ⟨.v (.map (some w.heap.size)), _, β', D, w.alloc (.map #[] 0), ?_, hK w.heap.size, rfl, ⟨⟨fun k s hk => ?_, fun k s hk => ?_, fun i bk hi => ?_⟩, hok.lt⟩, rfl, ?_⟩
 · simp only [execOp, Option.map_none, Sem.run_bind, run_makeMap, Result.andThen_ok, Sem.run_pure, SV.c]
 · exact SV.lt_mono (Nat.le_add_right nb 1) s (hok.wf.t k s hk)
 · exact SV.lt_mono (Nat.le_add_right nb 1) s (hok.wf.g k s hk)
 · rcases hlk i bk hi with ⟨rfl, rfl⟩ | ⟨_, h2⟩
   · exact ⟨Nat.lt_add_of_pos_right (by decide), rfl⟩
   · exact ⟨Nat.lt_of_lt_of_le (hok.wf.m i bk h2).1 (Nat.le_add_right nb 1), Blk.lt_mono (Nat.le_add_right nb 1) bk (hok.wf.m i bk h2).2⟩
 · refine ⟨?_, hs.size, fun k s hk => (hs.t k s hk).trans (SV.c_lt hlow s (hok.wf.t k s hk)).symm, fun i bk hi => ?_, fun i j bi bj hi hj li lj hne => ?_, fun i bk hi hl hD => ?_, fun c hc => by rw [hsz]; exact Nat.lt_succ_of_lt (hs.dlt c hc), fun w2 hc => ?_, ?_⟩
   · obtain ⟨l, l1, l2, l3⟩ := hs.defers
     exact ⟨l, l1, l2, fun d hd => ⟨(hold _ (Array.getElem?_eq_some_iff.1 (l3 d hd).1).1).trans (l3 d hd).1, (l3 d hd).2⟩⟩
   · rcases hlk i bk hi with ⟨rfl, rfl⟩ | ⟨hlt, h2⟩
     · exact ⟨e0, .map #[] 0, by rw [e0]; exact hnew, True.intro, MpOk.empty P k H⟩
     · rw [hlow i hlt]
       exact Blk.ok_nm hlow bk (hok.wf.m i bk h2).2 (Blk.ok_congr (fr := []) (fun _ _ => rfl) bk (Blk.av_nil bk) (fun hl => hold _ (hlive i bk h2 hl)) (hs.m i bk h2))
   · rcases hlk i bi hi with ⟨rfl, rfl⟩ | ⟨hlt, h2⟩ <;> rcases hlk j bj hj with ⟨rfl, rfl⟩ | ⟨hlt', h2'⟩
     · exact absurd rfl hne
     · rw [e0, hlow j hlt']; have := hlive j bj h2' lj; omega
     · rw [e0, hlow i hlt]; have := hlive i bi h2 li; omega
     · rw [hlow i hlt, hlow j hlt']; exact hs.inj i j bi bj h2 h2' li lj hne
   · rcases hlk i bk hi with ⟨rfl, rfl⟩ | ⟨hlt, h2⟩
     · rw [e0] at hD
       have := hs.dlt _ hD; omega
     · rw [hlow i hlt] at hD
       exact hs.out i bk h2 hl hD
   · refine hs.h w2 ⟨hc.os, hc.tape, hc.output, Nat.le_trans (by rw [hsz]; omega) hc.size, fun c hcl hn => ?_⟩
     rw [hc.same c (by rw [hsz]; omega) hn]
     exact hold c hcl
   · exact hs.amb.keep (fun k s hk => SV.c_lt hlow s (hok.wf.g k s hk)) (fun c o hco _ => (hold c (Array.getElem?_eq_some_iff.1 hco).1).trans hco) (fun c hcl hD => hD)
end Go.Proofs.Ythfabodamhdhaaa.Tx
namespace Go.Proofs.Ythfabodamhdhaaa
open Go Tx Go.RowKit
set_option linter.unusedSimpArgs false
set_option linter.unusedVariables false
abbrev stK (s a d : Int) : Value := .agg #[.int .u64 s, .int .i64 a, .int .i64 d]
theorem under118 : Try.prog.underlying 118 = some (.struct #[⟨"set", 116, 0, false, "", "bigtop/route", 0⟩, ⟨"at", 3, 1, false, "", "bigtop/route", 8⟩, ⟨"day", 3, 2, false, "", "bigtop/route", 16⟩]) := by kernel_rfl
theorem under116 : Try.prog.underlying 116 = some (.int .u64) := by kernel_rfl
theorem under3 : Try.prog.underlying 3 = some (.int .i64) := by kernel_rfl
theorem under169 : Try.prog.underlying 169 = some (.map 118 3) := by kernel_rfl
theorem laidB : laidOutB Try.prog = true := by kernel_rfl
theorem kt118 : Try.prog.keyType 118 = true := by kernel_rfl
theorem sz118 : Nat.ble (Try.prog.types.size + 2) 10000 = true := by kernel_rfl
theorem row118 : Nat.ble (118 + 1) Try.prog.types.size = true := by kernel_rfl
set_option maxRecDepth 100000 in
theorem lt118 : 118 < Try.prog.types.size := Nat.le_of_ble_eq_true row118
set_option maxRecDepth 100000 in
theorem sz118' : Try.prog.types.size + 2 ≤ 10000 := Nat.le_of_ble_eq_true sz118
set_option maxRecDepth 100000 in
theorem wide118 : (match Try.prog.underlying 118 with | some (.array _ _) | some (.struct _) => true | _ => false) = true := by rw [under118]
set_option maxRecDepth 100000 in
theorem klaw118 : WideMaps.KeyLaw Try.prog 118 := deep_law_gate laidB sz118' lt118 kt118 wide118
theorem law118 : Maps.Keyed Try.prog 118 := Maps.Keyed.of_law klaw118
theorem cells118 : Try.prog.cellsOf 118 = 3 := by kernel_rfl
theorem cells116 : Try.prog.cellsOf 116 = 1 := by kernel_rfl
theorem cells3 : Try.prog.cellsOf 3 = 1 := by kernel_rfl
theorem stK_key {s a d : Int} (hs : (Lit.int .u64 s).wf = true) (ha : (Lit.int .i64 a).wf = true) (hd : (Lit.int .i64 d).wf = true) : ∃ l, keyOf Try.prog 118 (stK s a d) = some l := by
 have hf : (stK s a d).formed Try.prog 118 = true := by simp only [Value.formed, under118, cells118]; rfl
 have hl : ∀ n, Try.prog.keyLits (n + 2) 118 [.int .u64 s, .int .i64 a, .int .i64 d] = some [.int .u64 s, .int .i64 a, .int .i64 d] := fun n => by
  simp [Program.keyLits, under118, under116, under3, cells118, cells116, cells3, hs, ha, hd]
 obtain ⟨n, hn⟩ : ∃ n, Try.prog.types.size = n + 1 := ⟨Try.prog.types.size - 1, by have := Nat.le_of_ble_eq_true row118; omega⟩
 have hcs : (stK s a d).cells.toList = [.int .u64 s, .int .i64 a, .int .i64 d] := rfl
 have : keyOf Try.prog 118 (stK s a d) = some (.string (keyBytes [.int .u64 s, .int .i64 a, .int .i64 d])) := by
  simp only [keyOf, under118, kt118, hf, Bool.and_self, if_true]
  rw [hn, hcs, hl n]
  rfl
 exact ⟨_, this⟩
end Go.Proofs.Ythfabodamhdhaaa
