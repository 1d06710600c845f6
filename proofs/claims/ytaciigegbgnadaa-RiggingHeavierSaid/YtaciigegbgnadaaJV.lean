/- inside: is all that pulls at beams between their hangers? By JV.py. -/
import Derived.Test.YtaciigegbgnadaaJU
import Derived.Test.YtaciigegbgnadaaJE
import Derived.Test.YtaciigegbgnadaaIX
namespace Go.Proofs.Ytaciigegbgnadaa
open Go Tx Go.RowKit
set_option linter.unusedSimpArgs false
set_option linter.unusedVariables false

def ipB (BB : List Bm) (i : Nat) : List (Int × Int) := match BB[i]? with | some m => [(m.ab, m.aa), (m.bb, m.ba), ((i : Int), 30)] | none => []
def ipL (BB : List Bm) (k : Nat) : List (Int × Int) := (List.range k).flatMap (ipB BB)
theorem ipL_succ {BB : List Bm} {k : Nat} {m : Bm} (h : BB[k]? = some m) : ipL BB (k + 1) = ipL BB k ++ [(m.ab, m.aa), (m.bb, m.ba), ((k : Int), 30)] := by
  unfold ipL
  rw [List.range_succ, List.flatMap_append, List.flatMap_cons, List.flatMap_nil, List.append_nil]
  unfold ipB
  rw [h]
theorem ipL_len (BB : List Bm) (k : Nat) : (ipL BB k).length ≤ 3 * k := by
  induction k with
  | zero => simp [ipL]
  | succ k ih =>
    unfold ipL at ih ⊢
    rw [List.range_succ, List.flatMap_append, List.flatMap_cons, List.flatMap_nil, List.append_nil, List.length_append]
    have : (ipB BB k).length ≤ 3 := by unfold ipB; split <;> simp
    omega
def lpF (l : Ld) : Int × Int := (l.beam, l.at')
def insL (BB : List Bm) (LL : List Ld) : List (Int × Int) := ipL BB BB.length ++ LL.map lpF
def insQ (BB : List Bm) (q : Int × Int) : Bool := decide (q.1 < 0) || (match BB[q.1.toNat]? with | some m => inB q.2 m.lo m.hi | none => false)
theorem insL_ok {f0 f1 f2 : Int} {PP : List Int} {BB : List Bm} {LL : List Ld} (hr : rigOk f0 f1 f2 PP BB LL = true) : ∀ q ∈ insL BB LL, q.1 = -1 ∨ (0 ≤ q.1 ∧ q.1 < BB.length) := by
  intro q hq
  rcases List.mem_append.1 hq with h | h
  · unfold ipL at h
    obtain ⟨i, hi, hqi⟩ := List.mem_flatMap.1 h
    rw [List.mem_range] at hi
    obtain ⟨m, hm⟩ : ∃ m, BB[i]? = some m := ⟨_, List.getElem?_eq_getElem hi⟩
    have hok := bmOk_iff.1 (bm_at hr hm)
    have h1 := hasB_cases hok.2.2.2.1
    have h2 := hasB_cases hok.2.2.2.2.1
    unfold ipB at hqi
    rw [hm] at hqi
    simp only [List.mem_cons, List.not_mem_nil, or_false] at hqi
    rcases hqi with rfl | rfl | rfl
    · dsimp only; omega
    · dsimp only; omega
    · dsimp only; omega
  · obtain ⟨l, hl, rfl⟩ := List.mem_map.1 h
    have := List.all_eq_true.1 (rigOk_iff.1 hr).2.2.2.2.2.2 l hl
    rw [ldOk_iff] at this
    have h1 := hasB_cases this.1
    show l.beam = -1 ∨ _
    unfold lpF
    dsimp only
    omega
theorem insQ_P {BB : List Bm} {q : Int × Int} (hv : q.1 = -1 ∨ (0 ≤ q.1 ∧ q.1 < BB.length)) (h : insQ BB q = true) : insP BB q.1 q.2 := by
  rcases hv with h1 | ⟨h1, h2⟩
  · exact .inl h1
  · refine .inr ⟨h1, ?_⟩
    unfold insQ at h
    rw [decide_eq_false (by omega), Bool.false_or] at h
    cases hm : BB[q.1.toNat]? with
    | none => rw [hm] at h; cases h
    | some m => rw [hm] at h; exact ⟨m, rfl, inB_iff.1 h⟩
theorem insA_of {f0 f1 f2 : Int} {PP : List Int} {BB : List Bm} {LL : List Ld} (hr : rigOk f0 f1 f2 PP BB LL = true) (h : (insL BB LL).all (insQ BB) = true) : insA BB LL := by
  rw [List.all_eq_true] at h
  have key : ∀ q ∈ insL BB LL, insP BB q.1 q.2 := fun q hq => insQ_P (insL_ok hr q hq) (h q hq)
  refine ⟨fun i m hm => ?_, fun l hl => key (lpF l) (List.mem_append_right _ (List.mem_map.2 ⟨l, hl, rfl⟩))⟩
  have hi := (List.getElem?_eq_some_iff.1 hm).1
  have hmem : ∀ q ∈ ipB BB i, q ∈ insL BB LL := fun q hq => List.mem_append_left _ (List.mem_flatMap.2 ⟨i, List.mem_range.2 hi, hq⟩)
  have e : ipB BB i = [(m.ab, m.aa), (m.bb, m.ba), ((i : Int), 30)] := by unfold ipB; rw [hm]
  rw [e] at hmem
  exact ⟨key _ (hmem (m.ab, m.aa) (by simp)), key _ (hmem (m.bb, m.ba) (by simp)), key _ (hmem ((i : Int), 30) (by simp))⟩

set_option maxHeartbeats 8000000 in
set_option maxRecDepth 100000 in
theorem inside_ok (r : Rig) (PP : List Int) (BB : List Bm) (LL : List Ld) (w : World) (hin : RigIn r PP BB LL w) (hr : rigOk r.f0 r.f1 r.f2 PP BB LL = true) :
    Calls Try.prog 48 #[r.v] w fun e w' => e = .returned (.bool ((insL BB LL).all (insQ BB))) ∧ Below w.heap.size w w' := by
  have hri := rigOk_iff.1 hr
  have hm12 : BB.length ≤ 12 := hri.2.2.1
  have hl20 : LL.length ≤ 20 := hri.2.2.2.2.1
  have hvq := insL_ok hr
  have hll := ipL_len BB
  obtain ⟨po, pn, pc, bo, bn, bc, f0, f1, f2, lo, ln, lc⟩ := r
  obtain ⟨hP, hB, hL, rfl, rfl, rfl, l1, l2, l3⟩ := hin
  dsimp only at hP hB hL l1 l2 l3
  refine calls_valV env mixed Try.func48 has48 Try.ntmps48 [.agg #[.slice po PP.length pc, .slice bo BB.length bc, iv f0, iv f1, iv f2, .slice lo LL.length lc]] (by simp) ?_
  obtain ⟨Q, hQ⟩ : ∃ Q, insL BB LL = Q := ⟨_, rfl⟩
  refine VC.cutD env mixed 4 1 (fun y : Option Addr × Nat => [(1, .ptr 0 0), (3, .v (sV Q.length y))]) (fun _ => [(0, .cells [.v (.slice po PP.length pc), .v (.slice bo BB.length bc), .v (iv f0), .v (iv f1), .v (iv f2), .v (.slice lo LL.length lc)] 48)]) (fun y w2 => Below w.heap.size w w2 ∧ Rd 2 gF (sV Q.length y) Q w2) (fun y => Q = [] ∨ ∃ ad, y.1 = some ad) (fun _ _ => ⟨rfl, rfl⟩) ?_ ?_
  · skip
    repeat'
     conv => whnf
     first
      | refine zA ?_ | refine zB ?_ | refine zC ?_ | refine zD ?_ | refine zE ?_ | refine zF ?_ | refine zG ?_ | refine zH ?_ | refine zJ ?_ | refine zI ?_ | refine splT ?_ | refine splF ?_ | refine splNot ?_
      | ((first | refine splIn (fun hc => ?_) (fun hc => ?_) | refine splD (fun hc => ?_) (fun hc => ?_) | refine splE (fun hc => ?_) (fun hc => ?_) | refine splNE (fun hc => ?_) (fun hc => ?_)) <;> first | (exfalso; omega) | (exfalso; dsimp only at hc; omega) | skip)
    refine loopN 3 (fun k : Nat => [(1, .ptr 0 0), (3, oSV 1 2 (ipL BB k)), (4, .v (iv k))]) (fun k => (0, .cells [.v (.slice po PP.length pc), .v (.slice bo BB.length bc), .v (iv f0), .v (iv f1), .v (iv f2), .v (.slice lo LL.length lc)] 48) :: oM 1 2 2 gF 62 (ipL BB k)) (fun k => k ≤ BB.length) (fun k => BB.length - k) 0 (Nat.zero_le _) ⟨rfl, rfl, rfl, trivial⟩ ⟨rfl, trivial⟩ (fun k _ => by cases ipL BB k <;> exact ⟨rfl, rfl⟩) ?_
    intro k hk
    rcases Nat.lt_or_ge k BB.length with hkl | hkl
    · obtain ⟨m, hm⟩ : ∃ m, BB[k]? = some m := ⟨_, List.getElem?_eq_getElem hkl⟩
      obtain ⟨_, ad, rfl, _⟩ := hB.ptr (by omega)
      have ht := ipL_succ hm
      have hlk := hll k
      have e0 := fun (w' : World) (hb : Below w.heap.size w w') => rd_ati (hB.below hb) hm
      have g2 := fun (w' : World) (hb : Below w.heap.size w w') => fun j v (h : [iv m.ab, iv m.aa][j]? = some v) => (show w'.cell? (((ad.add ((k : Int).toNat * 8)).add 2).add j) = some v from by
        rw [Addr.add_add]
        match j, h with
        | 0, h => exact e0 w' hb 2 _ h
        | 1, h => exact e0 w' hb 3 _ h)
      have g4 := fun (w' : World) (hb : Below w.heap.size w w') => fun j v (h : [iv m.bb, iv m.ba][j]? = some v) => (show w'.cell? (((ad.add ((k : Int).toNat * 8)).add 4).add j) = some v from by
        rw [Addr.add_add]
        match j, h with
        | 0, h => exact e0 w' hb 4 _ h
        | 1, h => exact e0 w' hb 5 _ h)
      clear hvq hll hQ
      generalize ipL BB k = T at *
      cases T with
      | nil =>
        skip
        repeat'
         conv => whnf
         first
          | refine zA ?_ | refine zB ?_ | refine zC ?_ | refine zD ?_ | refine zE ?_ | refine zF ?_ | refine zG ?_ | refine zH ?_ | refine zJ ?_ | refine zI ?_ | refine splT ?_ | refine splF ?_ | refine splNot ?_
          | ((first | refine splIn (fun hc => ?_) (fun hc => ?_) | refine splD (fun hc => ?_) (fun hc => ?_) | refine splE (fun hc => ?_) (fun hc => ?_) | refine splNE (fun hc => ?_) (fun hc => ?_)) <;> first | (exfalso; omega) | (exfalso; dsimp only at hc; omega) | skip)
          | refine Exists.intro (α := List Value) [iv m.ab, iv m.aa] ⟨⟨rfl, fun w' hw' => g2 w' hw'⟩, ?_⟩
          | refine Exists.intro (α := List Value) [iv m.bb, iv m.ba] ⟨⟨rfl, fun w' hw' => g4 w' hw'⟩, ?_⟩
        all_goals first | (exfalso; omega) | exact ⟨k + 1, by omega, by omega, Ent.ren (rho [(1, 4), (2, 5)]) rfl (by rw [ht]; rfl) ⟨rfl, by rw [ht]; rfl, rfl, trivial⟩ (by rw [ht]; exact ⟨rfl, rfl, trivial⟩) fun _ h => h⟩
      | cons a T =>
        simp only [List.length_cons] at hlk
        repeat'
         conv => whnf
         first
          | refine zA ?_ | refine zB ?_ | refine zC ?_ | refine zD ?_ | refine zE ?_ | refine zF ?_ | refine zG ?_ | refine zH ?_ | refine zJ ?_ | refine zI ?_ | refine splT ?_ | refine splF ?_ | refine splNot ?_
          | ((first | refine splIn (fun hc => ?_) (fun hc => ?_) | refine splD (fun hc => ?_) (fun hc => ?_) | refine splE (fun hc => ?_) (fun hc => ?_) | refine splNE (fun hc => ?_) (fun hc => ?_)) <;> first | (exfalso; omega) | (exfalso; dsimp only at hc; omega) | skip)
          | refine Exists.intro (α := List Value) [iv m.ab, iv m.aa] ⟨⟨rfl, fun w' hw' => g2 w' hw'⟩, ?_⟩
          | refine Exists.intro (α := List Value) [iv m.bb, iv m.ba] ⟨⟨rfl, fun w' hw' => g4 w' hw'⟩, ?_⟩
        all_goals first | (exfalso; omega) | exact ⟨k + 1, by omega, by omega, Ent.ren (rho [(1, 4), (2, 5)]) rfl (by rw [ht]; rfl) ⟨rfl, by rw [ht]; simp [oSV]; rfl, rfl, trivial⟩ (by rw [ht]; exact ⟨rfl, by simp [oM]; rfl, trivial⟩) fun _ h => h⟩
    obtain rfl : k = BB.length := by omega
    repeat'
     conv => whnf
     first
      | refine zA ?_ | refine zB ?_ | refine zC ?_ | refine zD ?_ | refine zE ?_ | refine zF ?_ | refine zG ?_ | refine zH ?_ | refine zJ ?_ | refine zI ?_ | refine splT ?_ | refine splF ?_ | refine splNot ?_
      | ((first | refine splIn (fun hc => ?_) (fun hc => ?_) | refine splD (fun hc => ?_) (fun hc => ?_) | refine splE (fun hc => ?_) (fun hc => ?_) | refine splNE (fun hc => ?_) (fun hc => ?_)) <;> first | (exfalso; omega) | (exfalso; dsimp only at hc; omega) | skip)
    all_goals first | (exfalso; omega) | skip
    have hlk := hll BB.length
    have hQ' : ∀ j, j ≤ LL.length → (ipL BB BB.length ++ (LL.take j).map lpF).length ≤ 36 + j := fun j hj => by rw [List.length_append, List.length_map, List.length_take]; omega
    refine loopN 3 (fun j : Nat => [(1, .ptr 0 0), (3, oSV 1 2 (ipL BB BB.length ++ (LL.take j).map lpF)), (5, .v (iv j))]) (fun j => (0, .cells [.v (.slice po PP.length pc), .v (.slice bo BB.length bc), .v (iv f0), .v (iv f1), .v (iv f2), .v (.slice lo LL.length lc)] 48) :: oM 1 2 2 gF 62 (ipL BB BB.length ++ (LL.take j).map lpF)) (fun j => j ≤ LL.length) (fun j => LL.length - j) 0 (Nat.zero_le _) ⟨rfl, by rw [List.take_zero, List.map_nil, List.append_nil]; rfl, rfl, trivial⟩ (by rw [List.take_zero, List.map_nil, List.append_nil]; cases ipL BB BB.length <;> first | exact ⟨rfl, trivial⟩ | exact ⟨rfl, rfl, trivial⟩) (fun j _ => by cases (ipL BB BB.length ++ (LL.take j).map lpF) <;> exact ⟨rfl, rfl⟩) ?_
    intro j hj
    rcases Nat.lt_or_ge j LL.length with hjl | hjl
    · obtain ⟨l, hl⟩ : ∃ l, LL[j]? = some l := ⟨_, List.getElem?_eq_getElem hjl⟩
      obtain ⟨_, ad, rfl, _⟩ := hL.ptr (by omega)
      have ht : ipL BB BB.length ++ (LL.take (j + 1)).map lpF = (ipL BB BB.length ++ (LL.take j).map lpF) ++ [(l.beam, l.at')] := by rw [List.take_add_one, hl, List.map_append, ← List.append_assoc]; rfl
      have hlj := hQ' j hj
      have e0 := fun (w' : World) (hb : Below w.heap.size w w') => rd_ati (hL.below hb) hl
      have g0 := fun (w' : World) (hb : Below w.heap.size w w') => fun i v (h : [iv l.beam, iv l.at'][i]? = some v) => (show w'.cell? (((ad.add ((j : Int).toNat * 5)).add 0).add i) = some v from by
        rw [Addr.add_add, Nat.zero_add]
        match i, h with
        | 0, h => exact e0 w' hb 0 _ h
        | 1, h => exact e0 w' hb 1 _ h)
      clear hvq hll hQ hQ'
      generalize ipL BB BB.length ++ (LL.take j).map lpF = T at *
      cases T with
      | nil =>
        skip
        repeat'
         conv => whnf
         first
          | refine zA ?_ | refine zB ?_ | refine zC ?_ | refine zD ?_ | refine zE ?_ | refine zF ?_ | refine zG ?_ | refine zH ?_ | refine zJ ?_ | refine zI ?_ | refine splT ?_ | refine splF ?_ | refine splNot ?_
          | ((first | refine splIn (fun hc => ?_) (fun hc => ?_) | refine splD (fun hc => ?_) (fun hc => ?_) | refine splE (fun hc => ?_) (fun hc => ?_) | refine splNE (fun hc => ?_) (fun hc => ?_)) <;> first | (exfalso; omega) | (exfalso; dsimp only at hc; omega) | skip)
          | refine Exists.intro (α := List Value) [iv l.beam, iv l.at'] ⟨⟨rfl, fun w' hw' => g0 w' hw'⟩, ?_⟩
        all_goals first | (exfalso; omega) | exact ⟨j + 1, by omega, by omega, Ent.ren (rho [(1, 4), (2, 5)]) rfl (by rw [ht]; rfl) ⟨rfl, by rw [ht]; rfl, rfl, trivial⟩ (by rw [ht]; exact ⟨rfl, rfl, trivial⟩) fun _ h => h⟩
      | cons a T =>
        simp only [List.length_cons] at hlj
        repeat'
         conv => whnf
         first
          | refine zA ?_ | refine zB ?_ | refine zC ?_ | refine zD ?_ | refine zE ?_ | refine zF ?_ | refine zG ?_ | refine zH ?_ | refine zJ ?_ | refine zI ?_ | refine splT ?_ | refine splF ?_ | refine splNot ?_
          | ((first | refine splIn (fun hc => ?_) (fun hc => ?_) | refine splD (fun hc => ?_) (fun hc => ?_) | refine splE (fun hc => ?_) (fun hc => ?_) | refine splNE (fun hc => ?_) (fun hc => ?_)) <;> first | (exfalso; omega) | (exfalso; dsimp only at hc; omega) | skip)
          | refine Exists.intro (α := List Value) [iv l.beam, iv l.at'] ⟨⟨rfl, fun w' hw' => g0 w' hw'⟩, ?_⟩
        all_goals first | (exfalso; omega) | exact ⟨j + 1, by omega, by omega, Ent.ren (rho [(1, 4), (2, 5)]) rfl (by rw [ht]; rfl) ⟨rfl, by rw [ht]; simp [oSV]; rfl, rfl, trivial⟩ (by rw [ht]; exact ⟨rfl, by simp [oM]; rfl, trivial⟩) fun _ h => h⟩
    rw [List.take_of_length_le hjl]
    change insL BB LL = Q at hQ
    unfold insL at hQ
    rw [hQ]
    clear hQ hvq
    cases Q with
    | nil =>
      repeat'
       conv => whnf
       first
        | refine zA ?_ | refine zB ?_ | refine zC ?_ | refine zD ?_ | refine zE ?_ | refine zF ?_ | refine zG ?_ | refine zH ?_ | refine zJ ?_ | refine zI ?_ | refine splT ?_ | refine splF ?_ | refine splNot ?_
        | ((first | refine splIn (fun hc => ?_) (fun hc => ?_) | refine splD (fun hc => ?_) (fun hc => ?_) | refine splE (fun hc => ?_) (fun hc => ?_) | refine splNE (fun hc => ?_) (fun hc => ?_)) <;> first | (exfalso; omega) | (exfalso; dsimp only at hc; omega) | skip)
      all_goals first | (exfalso; omega) | skip
      exact ⟨rfl, Dis.mk [] (fun i hi => by simp at hi) fun β w1 hb hw => ⟨(none, 0), .inl rfl, ⟨⟨_, rfl, rfl⟩, ⟨_, rfl, rfl⟩, trivial⟩, ⟨⟨rfl, _, _, _, rfl, rfl, rfl⟩, trivial⟩, fun w2 h2 hb2 => ⟨h2, .inl ⟨rfl, rfl⟩⟩⟩⟩
    | cons q0 Q =>
      repeat'
       conv => whnf
       first
        | refine zA ?_ | refine zB ?_ | refine zC ?_ | refine zD ?_ | refine zE ?_ | refine zF ?_ | refine zG ?_ | refine zH ?_ | refine zJ ?_ | refine zI ?_ | refine splT ?_ | refine splF ?_ | refine splNot ?_
        | ((first | refine splIn (fun hc => ?_) (fun hc => ?_) | refine splD (fun hc => ?_) (fun hc => ?_) | refine splE (fun hc => ?_) (fun hc => ?_) | refine splNE (fun hc => ?_) (fun hc => ?_)) <;> first | (exfalso; omega) | (exfalso; dsimp only at hc; omega) | skip)
      all_goals first | (exfalso; omega) | skip
      exact ⟨rfl, Dis.mk [1] (fun i hi => by simp at hi; subst hi; exact ⟨_, rfl, rfl⟩) fun β w1 hb hw => ⟨(some ⟨β 1, 0, none⟩, β 2), .inr ⟨_, rfl⟩, ⟨⟨_, rfl, rfl⟩, ⟨_, rfl, rfl⟩, trivial⟩, ⟨⟨rfl, _, _, _, rfl, rfl, rfl⟩, trivial⟩, fun w2 h2 hb2 => ⟨h2, Rd.of_owns (sz := 2) (f := gF) (fun _ => rfl) rfl rfl (hb2 1 (by simp) _ rfl)⟩⟩⟩
  · rintro ⟨y1, y2⟩ hyy
    dsimp only at hyy
    refine VC.of env mixed ?_
    rw [hQ] at hvq ⊢
    have hQl : Q.length ≤ 60 := by
      have := hll BB.length
      rw [← hQ]; unfold insL; rw [List.length_append, List.length_map]; omega
    clear hQ hll
    repeat'
     conv => whnf
     first
      | refine zA ?_ | refine zB ?_ | refine zC ?_ | refine zD ?_ | refine zE ?_ | refine zF ?_ | refine zG ?_ | refine zH ?_ | refine zJ ?_ | refine zI ?_ | refine splT ?_ | refine splF ?_ | refine splNot ?_
      | ((first | refine splIn (fun hc => ?_) (fun hc => ?_) | refine splD (fun hc => ?_) (fun hc => ?_) | refine splE (fun hc => ?_) (fun hc => ?_) | refine splNE (fun hc => ?_) (fun hc => ?_)) <;> first | (exfalso; omega) | (exfalso; dsimp only at hc; omega) | skip)
    refine loopN 1 (fun k : Nat => [(1, .ptr 0 0), (3, .v (sV Q.length (y1, y2))), (6, .v (iv k))]) (fun _ => [(0, .cells [.v (.slice po PP.length pc), .v (.slice bo BB.length bc), .v (iv f0), .v (iv f1), .v (iv f2), .v (.slice lo LL.length lc)] 48)]) (fun k => k ≤ Q.length ∧ (Q.take k).all (insQ BB) = true) (fun k => Q.length - k) 0 ⟨Nat.zero_le _, rfl⟩ ⟨rfl, rfl, rfl, trivial⟩ ⟨rfl, trivial⟩ (fun _ _ => ⟨rfl, rfl⟩) ?_
    intro k ⟨hk, hall⟩
    rcases Nat.lt_or_ge k Q.length with hkl | hkl
    · obtain ⟨q, hq⟩ : ∃ q, Q[k]? = some q := ⟨_, List.getElem?_eq_getElem hkl⟩
      have hv := hvq q (List.mem_of_getElem? hq)
      have hno : insQ BB q = false → Q.all (insQ BB) = false := fun h => by
        rw [Bool.eq_false_iff]; intro hc; rw [List.all_eq_true] at hc
        rw [hc q (List.mem_of_getElem? hq)] at h; cases h
      have hyes : insQ BB q = true → (Q.take (k + 1)).all (insQ BB) = true := fun h => by rw [List.take_add_one, hq]; simp [hall, h]
      clear hall hvq
      obtain ⟨ay, rfl⟩ := hyy.resolve_left fun hc => by rw [hc] at hkl; simp at hkl
      obtain ⟨q1, q2⟩ := q
      rcases hv with hv | ⟨hv1, hv2⟩
      · dsimp only at hv
        subst hv
        have hy : insQ BB (-1, q2) = true := by simp [insQ]
        repeat'
         conv => whnf
         first
          | refine zA ?_ | refine zB ?_ | refine zC ?_ | refine zD ?_ | refine zE ?_ | refine zF ?_ | refine zG ?_ | refine zH ?_ | refine zJ ?_ | refine zI ?_ | refine splT ?_ | refine splF ?_ | refine splNot ?_
          | ((first | refine splIn (fun hc => ?_) (fun hc => ?_) | refine splD (fun hc => ?_) (fun hc => ?_) | refine splE (fun hc => ?_) (fun hc => ?_) | refine splNE (fun hc => ?_) (fun hc => ?_)) <;> first | (exfalso; omega) | (exfalso; dsimp only at hc; omega) | skip)
          | refine Exists.intro (α := List Value) [iv (-1), iv q2] ⟨⟨rfl, fun w' hw' => rd_ati hw'.2 hq⟩, ?_⟩
        all_goals first | (exfalso; omega) | exact ⟨k + 1, ⟨by omega, hyes hy⟩, by omega, Ent.weak rfl ⟨rfl, rfl, rfl, trivial⟩ ⟨rfl, trivial⟩ fun _ h => h⟩
      · dsimp only at hv1 hv2
        obtain ⟨i, rfl⟩ := Int.eq_ofNat_of_zero_le hv1
        obtain ⟨m, hm⟩ : ∃ m, BB[i]? = some m := ⟨_, List.getElem?_eq_getElem (by omega)⟩
        have hy : insQ BB ((i : Int), q2) = inB q2 m.lo m.hi := by
          unfold insQ
          dsimp only
          rw [decide_eq_false (by omega), Bool.false_or, Int.toNat_natCast, hm]
        rw [hy] at hno hyes
        obtain ⟨_, ab, rfl, _⟩ := hB.ptr (by omega)
        have g0 := fun (w' : World) (hb : Below w.heap.size w w') => rd_fld (hB.below hb) hm 0 (iv m.lo) rfl
        have g1 := fun (w' : World) (hb : Below w.heap.size w w') => rd_fld (hB.below hb) hm 1 (iv m.hi) rfl
        have h23 := fun w' => In_ok q2 m.lo m.hi w'
        cases hib : inB q2 m.lo m.hi <;> rw [hib] at h23 hno hyes
        all_goals skip
        repeat'
         conv => whnf
         first
          | refine zA ?_ | refine zB ?_ | refine zC ?_ | refine zD ?_ | refine zE ?_ | refine zF ?_ | refine zG ?_ | refine zH ?_ | refine zJ ?_ | refine zI ?_ | refine splT ?_ | refine splF ?_ | refine splNot ?_
          | ((first | refine splIn (fun hc => ?_) (fun hc => ?_) | refine splD (fun hc => ?_) (fun hc => ?_) | refine splE (fun hc => ?_) (fun hc => ?_) | refine splNE (fun hc => ?_) (fun hc => ?_)) <;> first | (exfalso; omega) | (exfalso; dsimp only at hc; omega) | skip)
          | refine Exists.intro (α := List Value) [iv i, iv q2] ⟨⟨rfl, fun w' hw' => rd_ati hw'.2 hq⟩, ?_⟩
          | refine Exists.intro (α := List Value) [iv m.lo] ⟨⟨rfl, fun w' hw' => g0 w' hw'.1⟩, ?_⟩
          | refine Exists.intro (α := List Value) [iv m.hi] ⟨⟨rfl, fun w' hw' => g1 w' hw'.1⟩, ?_⟩
          | ((with_reducible show CallEv _ _ 23 _ _ _ _ _); refine callE (k := 23) (fun β w' hbw => h23 _) ?_)
        all_goals first | (exfalso; omega) | exact ⟨k + 1, ⟨by omega, hyes rfl⟩, by omega, Ent.weak rfl ⟨rfl, rfl, rfl, trivial⟩ ⟨rfl, trivial⟩ fun _ h => h⟩ | exact ⟨fun β => congrArg Value.bool (hno rfl).symm, fun w' h => h.1⟩
    · rw [List.take_of_length_le hkl] at hall
      rw [hall]
      repeat'
       conv => whnf
       first
        | refine zA ?_ | refine zB ?_ | refine zC ?_ | refine zD ?_ | refine zE ?_ | refine zF ?_ | refine zG ?_ | refine zH ?_ | refine zJ ?_ | refine zI ?_ | refine splT ?_ | refine splF ?_ | refine splNot ?_
        | ((first | refine splIn (fun hc => ?_) (fun hc => ?_) | refine splD (fun hc => ?_) (fun hc => ?_) | refine splE (fun hc => ?_) (fun hc => ?_) | refine splNE (fun hc => ?_) (fun hc => ?_)) <;> first | (exfalso; omega) | (exfalso; dsimp only at hc; omega) | skip)
      all_goals first | (exfalso; omega) | exact ⟨fun β => rfl, fun w' h => h.1⟩
end Go.Proofs.Ytaciigegbgnadaa
