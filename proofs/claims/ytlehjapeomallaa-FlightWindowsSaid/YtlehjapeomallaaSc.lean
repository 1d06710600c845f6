/- The engine, part 3: the law of a region that draws its order. -/
import Derived.Test.YtlehjapeomallaaSb
namespace Go.Proofs.Ytlehjapeomallaa.Sx
open Go

/-- The operations ahead of one, as bits. -/
def maskOf (acc : List Nat) : List Edge → Nat
  | [] => 0
  | e :: r => if Region.binds .any e then (1 <<< e.on) ||| (acc.getD e.on 0 ||| maskOf acc r) else maskOf acc r

def bef : List Oper → List Nat → List Nat
  | [], acc => acc
  | o :: r, acc => bef r (acc ++ [maskOf acc o.after.toList])

theorem bef_length : ∀ (l : List Oper) (acc : List Nat), (bef l acc).length = acc.length + l.length
  | [], acc => by simp [bef]
  | o :: r, acc => by
    simp only [bef]
    rw [bef_length r]
    simp
    omega

theorem bef_prefix : ∀ (l : List Oper) (acc : List Nat) (j : Nat), j < acc.length → (bef l acc)[j]? = acc[j]?
  | [], _, _, _ => rfl
  | o :: r, acc, j, h => by
    simp only [bef]
    rw [bef_prefix r _ j (by simp; omega)]
    rw [List.getElem?_append_left h]

theorem bef_get : ∀ (l : List Oper) (acc : List Nat) (j : Nat) (o : Oper), l[j]? = some o → ∃ acc', acc'.length = acc.length + j ∧ (bef l acc)[acc.length + j]? = some (maskOf acc' o.after.toList) ∧
    ∀ k, k < acc'.length → (bef l acc)[k]? = acc'[k]?
  | [], _, _, _, h => by simp at h
  | o' :: r, acc, 0, o, h => by
    simp only [List.getElem?_cons_zero, Option.some.injEq] at h
    subst h
    refine ⟨acc, rfl, ?_, fun k hk => ?_⟩
    · simp only [bef]
      rw [bef_prefix r _ _ (by simp)]
      simp
    · simp only [bef]
      rw [bef_prefix r _ _ (by simp; omega), List.getElem?_append_left hk]
  | o' :: r, acc, j + 1, o, h => by
    obtain ⟨acc', h1, h2, h3⟩ := bef_get r (acc ++ [maskOf acc o'.after.toList]) j o (by simpa using h)
    refine ⟨acc', by simp at h1; omega, ?_, h3⟩
    simp only [bef]
    rw [show acc.length + (j + 1) = (acc ++ [maskOf acc o'.after.toList]).length + j from by simp; omega]
    exact h2

theorem maskOf_bit {acc : List Nat} {k : Nat} : ∀ {l : List Edge}, (maskOf acc l).testBit k = true → ∃ e ∈ l, Region.binds .any e = true ∧ (k = e.on ∨ (acc.getD e.on 0).testBit k = true)
  | [], h => by simp [maskOf] at h
  | e :: r, h => by
    simp only [maskOf] at h
    split at h
    · rename_i hb
      simp only [Nat.testBit_or, Bool.or_eq_true] at h
      rcases h with h | h | h
      · refine ⟨e, List.mem_cons_self, hb, .inl ?_⟩
        rw [Nat.one_shiftLeft, Nat.testBit_two_pow] at h
        simpa using (of_decide_eq_true h).symm
      · exact ⟨e, List.mem_cons_self, hb, .inr h⟩
      · obtain ⟨e', he, h1, h2⟩ := maskOf_bit h
        exact ⟨e', List.mem_cons_of_mem _ he, h1, h2⟩
    · obtain ⟨e', he, h1, h2⟩ := maskOf_bit h
      exact ⟨e', List.mem_cons_of_mem _ he, h1, h2⟩

/-- Each edge leads back. -/
def edgesB : Nat → List Oper → Bool
  | _, [] => true
  | j, o :: r => (o.after.toList.all fun e => !(Region.binds .any e) || Nat.blt e.on j) && edgesB (j + 1) r

theorem edgesB_get : ∀ (l : List Oper) (i j : Nat) (o : Oper), edgesB i l = true → l[j]? = some o → ∀ e ∈ o.after, Region.binds .any e = true → e.on < i + j
  | [], _, _, _, _, h => by simp at h
  | o' :: r, i, 0, o, hb, h => by
    simp only [List.getElem?_cons_zero, Option.some.injEq] at h
    subst h
    intro e he hbind
    simp only [edgesB, Bool.and_eq_true, List.all_eq_true] at hb
    have := hb.1 e (by simpa using he)
    simp only [hbind, Bool.not_true, Bool.false_or] at this
    rw [Nat.blt_eq] at this
    omega
  | o' :: r, i, j + 1, o, hb, h => by
    simp only [edgesB, Bool.and_eq_true] at hb
    intro e he hbind
    have := edgesB_get r (i + 1) j o hb.2 (by simpa using h) e he hbind
    omega

section
variable {ops : List Oper} (he : edgesB 0 ops = true) (listed : Nat → Prop) (hdown : ∀ j, listed j → ∀ o, ops[j]? = some o → ∀ e ∈ o.after, Region.binds .any e = true → listed e.on)
include he hdown
theorem bef_listed : ∀ (n j : Nat), j ≤ n → ∀ o, ops[j]? = some o → (∀ e ∈ o.after, Region.binds .any e = true → listed e.on) → ∀ k, ((bef ops []).getD j 0).testBit k = true → listed k ∧ k < j := by
  intro n
  induction n with
  | zero =>
    intro j hj o ho hl k hk
    obtain rfl : j = 0 := by omega
    obtain ⟨acc', h1, h2, h3⟩ := bef_get ops [] 0 o ho
    simp only [List.length_nil, Nat.add_zero] at h1 h2
    rw [List.getD_eq_getElem?_getD, h2] at hk
    obtain ⟨e, hem, hb, _⟩ := maskOf_bit hk
    have := edgesB_get ops 0 0 o he ho e (by simpa using hem) hb
    omega
  | succ n ih =>
    intro j hj o ho hl k hk
    obtain ⟨acc', h1, h2, h3⟩ := bef_get ops [] j o ho
    simp only [List.length_nil, Nat.zero_add] at h1 h2
    rw [List.getD_eq_getElem?_getD, h2] at hk
    obtain ⟨e, hem, hb, hor⟩ := maskOf_bit hk
    have hem' : e ∈ o.after := by simpa using hem
    have hlt := edgesB_get ops 0 j o he ho e hem' hb
    rw [Nat.zero_add] at hlt
    rcases hor with rfl | hor
    · exact ⟨hl e hem' hb, hlt⟩
    · have hjl : j < ops.length := (List.getElem?_eq_some_iff.1 ho).1
      have ho' : ops[e.on]? = some ops[e.on] := List.getElem?_eq_getElem (by omega)
      have := ih e.on (by omega) _ ho' (fun e' he' hb' => hdown e.on (hl e hem' hb) _ ho' e' he' hb') k (by
        rw [List.getD_eq_getElem?_getD, h3 e.on (by omega), ← List.getD_eq_getElem?_getD]; exact hor)
      exact ⟨this.1, by omega⟩
end

theorem bef_lt {ops : List Oper} (he : edgesB 0 ops = true) {j k : Nat} (h : ((bef ops []).getD j 0).testBit k = true) : k < j := by
  have hj : j < ops.length := by
    rcases Nat.lt_or_ge j ops.length with h' | h'
    · exact h'
    · rw [List.getD_eq_getElem?_getD, List.getElem?_eq_none (by rw [bef_length]; simpa using h')] at h
      simp at h
  exact (bef_listed he (fun _ => True) (fun _ _ _ _ _ _ _ => trivial) j j (Nat.le_refl _) _ (List.getElem?_eq_getElem hj) (fun _ _ _ => trivial) k h).2

/-- k's effect leaves alone whatever j looks at or writes. -/
def apartB (pj pk : Oper × Ef) : Bool :=
  (match pk.1.dst with
   | some d => nin d pj.2.rs && (match pj.1.dst with | some d' => !(Nat.beq d d') | none => true)
   | none => true) &&
  pk.2.mods.all fun x => nin x.1 pj.2.rb && nin x.1 (pj.2.mods.map (·.1))
/-- k's effect does not name j's fresh blocks. -/
def avB (pj pk : Oper × Ef) : Bool :=
  pk.2.val.av pj.2.fr && pk.2.mods.all fun x => nin x.1 pj.2.fr && x.2.av pj.2.fr

def pairB (bs : List Nat) (j k : Nat) (pj pk : Oper × Ef) : Bool :=
  Nat.beq j k || (((bs.getD j 0).testBit k || (bs.getD k 0).testBit j || apartB pj pk) && ((bs.getD k 0).testBit j || avB pj pk))

def rowB (bs : List Nat) (j : Nat) (pj : Oper × Ef) : Nat → List (Oper × Ef) → Bool
  | _, [] => true
  | k, pk :: r => pairB bs j k pj pk && rowB bs j pj (k + 1) r
def allB (bs : List Nat) (L : List (Oper × Ef)) : Nat → List (Oper × Ef) → Bool
  | _, [] => true
  | j, pj :: r => rowB bs j pj 0 L && allB bs L (j + 1) r

theorem rowB_get {bs : List Nat} {j : Nat} {pj : Oper × Ef} : ∀ (l : List (Oper × Ef)) (i k : Nat) (pk : Oper × Ef), rowB bs j pj i l = true → l[k]? = some pk → pairB bs j (i + k) pj pk = true
  | [], _, _, _, _, h => by simp at h
  | p :: r, i, 0, pk, hb, h => by
    simp only [List.getElem?_cons_zero, Option.some.injEq] at h
    subst h
    simp only [rowB, Bool.and_eq_true] at hb
    exact hb.1
  | p :: r, i, k + 1, pk, hb, h => by
    simp only [rowB, Bool.and_eq_true] at hb
    have := rowB_get r (i + 1) k pk hb.2 (by simpa using h)
    rw [show i + (k + 1) = i + 1 + k from by omega]
    exact this
theorem allB_get {bs : List Nat} {L : List (Oper × Ef)} : ∀ (l : List (Oper × Ef)) (i j : Nat) (pj : Oper × Ef), allB bs L i l = true → l[j]? = some pj → rowB bs (i + j) pj 0 L = true
  | [], _, _, _, _, h => by simp at h
  | p :: r, i, 0, pj, hb, h => by
    simp only [List.getElem?_cons_zero, Option.some.injEq] at h
    subst h
    simp only [allB, Bool.and_eq_true] at hb
    exact hb.1
  | p :: r, i, j + 1, pj, hb, h => by
    simp only [allB, Bool.and_eq_true] at hb
    have := allB_get r (i + 1) j pj hb.2 (by simpa using h)
    rw [show i + (j + 1) = i + 1 + j from by omega]
    exact this

/-- The keys that an operation looks at or writes. -/
def Touch (p : Oper × Ef) : Key → Prop
  | (true, k) => k ∈ p.2.rs ∨ p.1.dst = some k
  | (false, i) => i ∈ p.2.rb ∨ ∃ b, (i, b) ∈ p.2.mods

theorem apartB_spec {pj pk : Oper × Ef} (h : apartB pj pk = true) {κ : Key} (ht : Touch pj κ) : ¬ Wr pk κ := by
  obtain ⟨b, i⟩ := κ
  simp only [apartB, Bool.and_eq_true, List.all_eq_true] at h
  cases b with
  | true =>
    intro hw
    have hw' : pk.1.dst = some i := hw
    rw [hw'] at h
    simp only [Bool.and_eq_true, nin_iff] at h
    rcases ht with ht | ht
    · exact h.1.1 ht
    · have h2 := h.1.2
      rw [ht] at h2
      simp at h2
  | false =>
    rintro ⟨b, hb⟩
    have := h.2 _ hb
    simp only [nin_iff] at this
    rcases ht with ht | ⟨b', hb'⟩
    · exact this.1 ht
    · exact this.2 (List.mem_map.2 ⟨_, hb', rfl⟩)

theorem avB_app {pj pk : Oper × Ef} {σ : Sg} (h : avB pj pk = true) (hs : σ.Av pj.2.fr) : (σ.app pk.1.dst pk.2).Av pj.2.fr := by
  simp only [avB, Bool.and_eq_true, List.all_eq_true] at h
  constructor
  · intro k s hk
    by_cases hw : Wr pk (true, k)
    · have := look_app_wr (σ := σ) hw
      simp only [look, look1, hk, Option.map_some, Option.some.injEq, Sum.inl.injEq] at this
      rw [this]; exact h.1
    · have := look_app_not (σ := σ) hw
      simp only [look, hk, Option.map_some] at this
      cases ho : lk σ.t k with
      | none => rw [ho] at this; simp at this
      | some s' =>
        rw [ho] at this
        simp only [Option.map_some, Option.some.injEq, Sum.inl.injEq] at this
        subst this
        exact hs.t k _ ho
  · intro i b hi
    have hi' : lk (pk.2.mods ++ σ.m) i = some b := hi
    rw [lk_append] at hi'
    cases hm : lk pk.2.mods i with
    | some y =>
      rw [hm] at hi'
      have hyb : y = b := Option.some.inj hi'
      subst hyb
      have := h.2 _ (lk_mem hm)
      simp only [nin_iff] at this
      exact this
    | none =>
      rw [hm] at hi'
      exact hs.m i b (by simpa using hi')

theorem foldS_av {fr : List Nat} : ∀ (L : List (Oper × Ef)) (S : List Bool) (σ : Sg), σ.Av fr → (∀ (k : Nat) (p : Oper × Ef), L[k]? = some p → S[k]? = some true → ∀ σ : Sg, σ.Av fr → (σ.app p.1.dst p.2).Av fr) →
    (foldS L S σ).Av fr
  | [], _, _, h, _ => by simpa [foldS] using h
  | p :: L, [], σ, h, _ => by simpa [foldS] using h
  | p :: L, b :: S, σ, h, hk => by
    simp only [foldS]
    refine foldS_av L S _ ?_ (fun k q hq hS => hk (k + 1) q (by simpa using hq) (by simpa using hS))
    cases b with
    | false => simpa using h
    | true => simpa using hk 0 p (by simp) (by simp) σ h

/-- The operations up to j done, and j: j's effect is the last. -/
theorem foldS_last : ∀ (L : List (Oper × Ef)) (S : List Bool) (σ : Sg) (j : Nat) (p : Oper × Ef), S.length = L.length → L[j]? = some p → S[j]? = some true → (∀ k, j < k → k < L.length → S[k]? = some false) →
    ∃ σ' : Sg, foldS L S σ = σ'.app p.1.dst p.2
  | [], _, _, _, _, _, h, _, _ => by simp at h
  | q :: L, [], _, _, _, h, _, _, _ => by simp at h
  | q :: L, b :: S, σ, 0, p, hl, hp, hS, hk => by
    simp only [List.getElem?_cons_zero, Option.some.injEq] at hp hS
    subst hp hS
    refine ⟨σ, ?_⟩
    simp only [foldS, if_true]
    refine foldS_none L S _ fun b hb => ?_
    obtain ⟨k, hk', rfl⟩ := List.mem_iff_getElem.1 hb
    have := hk (k + 1) (by omega) (by simp at hl ⊢; omega)
    simp only [List.getElem?_cons_succ, List.getElem?_eq_getElem hk', Option.some.injEq] at this
    exact this
  | q :: L, b :: S, σ, j + 1, p, hl, hp, hS, hk => by
    simp only [foldS]
    exact foldS_last L S _ j p (by simpa using hl) (by simpa using hp) (by simpa using hS) fun k h1 h2 => by
      have := hk (k + 1) (by omega) (by simp; omega)
      simpa using this

theorem look_inl {σ σ' : Sg} {k : Nat} (h : look σ (true, k) = look σ' (true, k)) : lk σ.t k = lk σ'.t k := by
  simp only [look] at h
  cases h1 : lk σ.t k <;> cases h2 : lk σ'.t k <;> simp_all
theorem look_inr {σ σ' : Sg} {i : Nat} (h : look σ (false, i) = look σ' (false, i)) : lk σ.m i = lk σ'.m i := by
  simp only [look] at h
  cases h1 : lk σ.m i <;> cases h2 : lk σ'.m i <;> simp_all

theorem Sat'.drawn {σ : Sg} {β : Nat → Nat} {D : Nat → Prop} {a : Act} {w : World} (h : Sat' σ β D a w) (d : Nat) : Sat' σ β D a { w with drawn := d } :=
  ⟨h.defers, h.size, h.t, fun i b hi => by
    have := h.m i b hi
    cases b <;> exact this, h.inj, h.out, h.dlt, fun w' hc => h.h w' ⟨hc.os, hc.tape, hc.output, hc.size, hc.same⟩⟩

/-- What is to be checked of a region that draws its order, on one path. -/
structure DrawOK (L : List (Oper × Ef)) (σ : Sg) : Prop where
  edges : edgesB 0 (L.map (·.1)) = true
  pairs : allB (bef (L.map (·.1)) []) L 0 L = true
  av : ∀ p ∈ L, σ.Av p.2.fr

theorem region_any {F : Fence} {n : Nat} {P : Program} {id : Nat} {ops : Array Oper} {Q : Exit → Act → World → Prop} {L : List (Oper × Ef)} {σ : Sg} {a : Act} {w : World}
    (hm : P.follows .mixedOrders = true) (hL : ops.toList = L.map (·.1)) (hp : Path F n P ops L σ) (hd : DrawOK L σ) (hs : Sat σ a w) (hq : ∀ a w, Sat (fin L σ) a w → Q .normal a w) :
    (Code.region id ops true).wpIn F n P Q a w := by
  refine wpIn_region_any hm ?_
  have hsz : ops.size = L.length := by
    have := congrArg List.length hL
    simpa using this
  have hget : ∀ i : Nat, ops[i]? = (L[i]?).map (fun p : Oper × Ef => p.1) := fun i => by rw [← List.getElem?_map, ← hL, Array.getElem?_toList]
  -- the walk over the orders
  have key : ∀ (fuel : Nat) (listed : Array Bool) (a : Act) (w : World), listed.size = L.length → (listed.toList.countP (! ·)) = fuel →
      (∀ j, listed.getD j false = true → ∀ o, (L.map (·.1))[j]? = some o → ∀ e ∈ o.after, Region.binds .any e = true → listed.getD e.on false = true) →
      Sat (foldS L listed.toList σ) a w → wpAnyIn F n P .any ops Q fuel listed a w := by
    intro fuel
    -- where nothing is ready all is done
    have done : ∀ (listed : Array Bool) (a : Act) (w : World), listed.size = L.length → Region.ready .any ops listed = [] → Sat (foldS L listed.toList σ) a w → Q .normal a w := by
      intro listed a w hls hr hsat
      refine hq a w ?_
      rw [← foldS_all L listed.toList σ (by simpa using hls) ?_]
      · exact hsat
      · -- the first that is not listed would be ready
        have hall : ∀ m j, j ≤ m → j < L.length → listed.getD j true = true := by
          intro m
          induction m with
          | zero =>
            intro j hj hjl
            obtain rfl : j = 0 := by omega
            refine Classical.byContradiction fun hne => ?_
            have hmem : (0 : Nat) ∈ Region.ready .any ops listed := by
              rw [mem_ready]
              refine ⟨by simpa using hne, (L[0]).1, by rw [hget]; simp [List.getElem?_eq_getElem hjl], fun e he hb => ?_⟩
              have := edgesB_get _ 0 0 (L[0]).1 hd.edges (by simp [List.getElem?_eq_getElem hjl]) e he hb
              omega
            rw [hr] at hmem; cases hmem
          | succ m ih =>
            intro j hj hjl
            refine Classical.byContradiction fun hne => ?_
            have hmem : j ∈ Region.ready .any ops listed := by
              rw [mem_ready]
              refine ⟨by simpa using hne, (L[j]).1, by rw [hget]; simp [List.getElem?_eq_getElem hjl], fun e he hb => ?_⟩
              have hlt := edgesB_get _ 0 j (L[j]).1 hd.edges (by simp [List.getElem?_eq_getElem hjl]) e he hb
              rw [Nat.zero_add] at hlt
              have := ih e.on (by omega) (by omega)
              have hin : e.on < listed.size := by omega
              simp only [Array.getD_eq_getD_getElem?, Array.getElem?_eq_getElem hin, Option.getD_some] at this ⊢
              exact this
            rw [hr] at hmem; cases hmem
        intro b hb
        obtain ⟨k, hk, rfl⟩ := List.mem_iff_getElem.1 hb
        have hk' : k < listed.size := by simpa using hk
        have := hall k k (Nat.le_refl _) (by omega)
        simp only [Array.getD_eq_getD_getElem?, Array.getElem?_eq_getElem hk', Option.getD_some] at this
        simpa using this
    induction fuel with
    | zero =>
      intro listed a w hls hc hdown hsat
      have hnone : Region.ready .any ops listed = [] := by
        rw [List.eq_nil_iff_forall_not_mem]
        intro i hi
        have h0 := (mem_ready.1 hi).1
        obtain ⟨o, ho, _⟩ := (mem_ready.1 hi).2
        have hil : i < listed.size := by rw [hls, ← hsz]; exact (Array.getElem?_eq_some_iff.1 ho).1
        rw [List.countP_eq_zero] at hc
        have := hc listed[i] (by simp)
        simp only [Array.getD_eq_getD_getElem?, Array.getElem?_eq_getElem hil, Option.getD_some] at h0
        simp [h0] at this
      exact ⟨hnone, done listed a w hls hnone hsat⟩
    | succ fuel ih =>
      intro listed a w hls hc hdown hsat
      refine ⟨fun hr => done listed a w hls hr hsat, fun i hi => ?_⟩
      obtain ⟨h0, o, ho, hall⟩ := mem_ready.1 hi
      have hil : i < listed.size := by rw [hls, ← hsz]; exact (Array.getElem?_eq_some_iff.1 ho).1
      have hiL : i < L.length := by omega
      obtain ⟨E, hE⟩ : ∃ E, L[i]? = some (o, E) := by
        have := hget i
        rw [ho, List.getElem?_eq_getElem hiL] at this
        simp only [Option.map_some, Option.some.injEq] at this
        exact ⟨(L[i]).2, by rw [List.getElem?_eq_getElem hiL, this]⟩
      have hlink := Path.link L σ i (o, E) hp hE
      have hiF : listed[i] = false := by
        simpa only [Array.getD_eq_getD_getElem?, Array.getElem?_eq_getElem hil, Option.getD_some] using h0
      have hSi : listed.toList[i]? = some false := by simp [hil, hiF]
      have hSl : listed.toList.length = L.length := by simpa using hls
      -- listed, as a predicate
      have hoL : (L.map (·.1))[i]? = some o := by simp [hE]
      have hbi : ∀ k, ((bef (L.map (·.1)) []).getD i 0).testBit k = true → listed.getD k false = true := fun k hk =>
        (bef_listed hd.edges (fun j => listed.getD j false = true) hdown i i (Nat.le_refl _) o hoL hall k hk).1
      have hbk : ∀ k pk, L[k]? = some pk → listed.getD k false = true → ¬ ((bef (L.map (·.1)) []).getD k 0).testBit i = true := fun k pk hpk hk hbit => by
        have hkL : (L.map (·.1))[k]? = some pk.1 := by simp [hpk]
        have := (bef_listed hd.edges (fun j => listed.getD j false = true) hdown k k (Nat.le_refl _) pk.1 hkL (hdown k hk pk.1 hkL) i hbit).1
        simp only [Array.getD_eq_getD_getElem?, Array.getElem?_eq_getElem hil, Option.getD_some, hiF] at this
        cases this
      have hpair : ∀ k pk, L[k]? = some pk → pairB (bef (L.map (·.1)) []) i k (o, E) pk = true := fun k pk hpk => by
        have h1 := allB_get L 0 i (o, E) hd.pairs hE
        rw [Nat.zero_add] at h1
        have h2 := rowB_get L 0 k pk h1 hpk
        rw [Nat.zero_add] at h2
        exact h2
      -- whoever is done behind i, or not done ahead of it, is apart from it
      have hapart : ∀ k pk, L[k]? = some pk → k ≠ i → ((k < i ∧ listed.toList[k]? = some false) ∨ (i < k ∧ listed.toList[k]? = some true)) → ∀ κ, Touch (o, E) κ → ¬ Wr pk κ := by
        intro k pk hpk hne hcase κ ht
        have hpr := hpair k pk hpk
        have hbeq : Nat.beq i k = false := by
          cases hb : Nat.beq i k with
          | false => rfl
          | true => exact absurd (Nat.eq_of_beq_eq_true hb).symm hne
        simp only [pairB, hbeq, Bool.false_or, Bool.and_eq_true, Bool.or_eq_true] at hpr
        refine apartB_spec ?_ ht
        rcases hpr.1 with (h | h) | h
        · exfalso
          have hl := hbi k h
          have hlt := bef_lt hd.edges h
          rcases hcase with ⟨_, hf⟩ | ⟨hgt, _⟩
          · have hk : k < listed.size := by omega
            simp only [Array.getD_eq_getD_getElem?, Array.getElem?_eq_getElem hk, Option.getD_some] at hl
            simp [hk, hl] at hf
          · omega
        · exfalso
          have hlt := bef_lt hd.edges h
          rcases hcase with ⟨hlt', _⟩ | ⟨_, hf⟩
          · omega
          · refine hbk k pk hpk ?_ h
            have hk : k < listed.size := by
              have := (List.getElem?_eq_some_iff.1 hf).1
              simpa using this
            simp only [Array.getD_eq_getD_getElem?, Array.getElem?_eq_getElem hk, Option.getD_some]
            simpa [hk] using hf
        · exact h
      -- (A) what i touches reads as in the order of the text
      have hT : (List.replicate i true ++ List.replicate (L.length - i) false).length = L.length := by simp; omega
      have hA : ∀ κ, Touch (o, E) κ → look (foldS L listed.toList σ) κ = look (fin (L.take i) σ) κ := by
        intro κ ht
        rw [← foldS_take L i σ (by omega)]
        refine foldS_look L _ _ σ σ hSl hT rfl fun k pk hpk hne => ?_
        have hkL : k < L.length := (List.getElem?_eq_some_iff.1 hpk).1
        have hkS : k < listed.toList.length := by omega
        by_cases hki : k = i
        · subst hki
          exfalso; apply hne
          rw [hSi, List.getElem?_append_right (by simp), List.getElem?_replicate]
          simp only [List.length_replicate, Nat.sub_self]
          rw [if_pos (by omega)]
        · refine hapart k pk hpk hki ?_ κ ht
          rcases Nat.lt_or_gt_of_ne hki with hlt | hgt
          · refine .inl ⟨hlt, ?_⟩
            rw [List.getElem?_append_left (by simpa using hlt)] at hne
            rw [List.getElem?_eq_getElem hkS] at hne ⊢
            rw [List.getElem?_replicate] at hne
            simp only [hlt, if_true, ne_eq, Option.some.injEq] at hne ⊢
            simpa using hne
          · refine .inr ⟨hgt, ?_⟩
            rw [List.getElem?_append_right (by simp; omega)] at hne
            rw [List.getElem?_eq_getElem hkS] at hne ⊢
            rw [List.getElem?_replicate] at hne
            have : k - (List.replicate i true).length < L.length - i := by simp; omega
            simp only [this, if_true, ne_eq, Option.some.injEq] at hne ⊢
            simpa using hne
      obtain ⟨β, Dm, hsat⟩ := hsat
      -- (B) the fresh numbers are new
      have hav : (foldS L listed.toList σ).Av E.fr := by
        refine foldS_av L _ σ (hd.av (o, E) (List.mem_of_getElem? hE)) fun k pk hpk hk σ' hσ' => ?_
        have hkL : k < L.length := (List.getElem?_eq_some_iff.1 hpk).1
        have hki : k ≠ i := fun e => by subst e; rw [hSi] at hk; cases hk
        have hpr := hpair k pk hpk
        have hbeq : Nat.beq i k = false := by
          cases hb : Nat.beq i k with
          | false => rfl
          | true => exact absurd (Nat.eq_of_beq_eq_true hb).symm hki
        simp only [pairB, hbeq, Bool.false_or, Bool.and_eq_true, Bool.or_eq_true] at hpr
        rcases hpr.2 with h | h
        · exfalso
          refine hbk k pk hpk ?_ h
          have hk' : k < listed.size := by omega
          simp only [Array.getD_eq_getD_getElem?, Array.getElem?_eq_getElem hk', Option.getD_some]
          simpa [hk'] using hk
        · exact avB_app (pj := (o, E)) h hσ'
      -- (C)
      have hwf : E.Wf (foldS L listed.toList σ) := ⟨fun g b hg hgf => by
        obtain ⟨bk, h1, h2⟩ := hlink.wf.old g b hg hgf
        refine ⟨bk, ?_, h2⟩
        rw [look_inr (hA (false, g) (.inl (hlink.rb g b hg hgf)))]
        exact h1, hlink.wf.once⟩
      have hsees : Sees (fin (L.take i) σ) E β a w := by
        have h := hsat.sees E
        refine ⟨fun k hk s hs => h.t k hk s ?_, fun g hg b hb => h.m g hg b ?_, fun g hg g' hg' b b' h1 h2 => h.inj g hg g' hg' b b' ?_ ?_, ?_, ?_⟩
        · rw [look_inl (hA (true, k) (.inl hk))]; exact hs
        · rw [look_inr (hA (false, g) (.inl hg))]; exact hb
        · rw [look_inr (hA (false, g) (.inl hg))]; exact h1
        · rw [look_inr (hA (false, g') (.inl hg'))]; exact h2
        · have h1 := (foldS_meta L listed.toList σ).2
          have h2 : (fin (L.take i) σ).h = σ.h := by rw [← foldS_take L i σ (by omega)]; exact (foldS_meta _ _ σ).2
          rw [h2, ← h1]; exact h.h
        · have h1 := (foldS_meta L listed.toList σ).1
          have h2 : (fin (L.take i) σ).nt = σ.nt := by rw [← foldS_take L i σ (by omega)]; exact (foldS_meta _ _ σ).1
          rw [h2, ← h1]; exact h.size
      have hnt : ∀ d, o.dst = some d → d < (foldS L listed.toList σ).nt := fun d hd' => by
        have := hlink.dst d hd'
        have h2 : (fin (L.take i) σ).nt = σ.nt := by rw [← foldS_take L i σ (by omega)]; exact (foldS_meta _ _ σ).1
        rw [(foldS_meta L listed.toList σ).1, ← h2]; exact this
      have hstep := hlink.ok Q β a w (fun a' w' => Sat (foldS L (listed.setIfInBounds i true).toList σ) a' w') hsees fun β' w' hpost => by
        refine ⟨β', Dm, ?_⟩
        have happ := hsat.app hav hwf hnt hpost
        have hset : (listed.setIfInBounds i true).toList = listed.toList.set i true := by simp
        have hsl : (listed.toList.set i true).length = L.length := by simpa using hls
        -- (D)
        have hD : ∀ κ, look (foldS L (listed.toList.set i true) σ) κ = look ((foldS L listed.toList σ).app o.dst E) κ := by
          intro κ
          by_cases hw : Wr (o, E) κ
          · have ht : Touch (o, E) κ := by
              obtain ⟨b, g⟩ := κ
              cases b
              · exact .inr hw
              · exact .inr hw
            have hR : look ((foldS L listed.toList σ).app o.dst E) κ = look1 (o, E) κ := look_app_wr (p := (o, E)) hw
            rw [hR]
            -- cut off what lies behind i
            have hcut : look (foldS L (listed.toList.set i true) σ) κ = look (foldS L ((listed.toList.set i true).take (i + 1) ++ List.replicate (L.length - (i + 1)) false) σ) κ := by
              refine foldS_look L _ _ σ σ hsl (by simp; omega) rfl fun k pk hpk hne => ?_
              have hkL : k < L.length := (List.getElem?_eq_some_iff.1 hpk).1
              by_cases hk1 : k < i + 1
              · exfalso; apply hne
                rw [List.getElem?_append_left (by simp; omega), List.getElem?_take_of_lt hk1]
              · refine hapart k pk hpk (by omega) (.inr ⟨by omega, ?_⟩) κ ht
                rw [List.getElem?_append_right (by simp; omega)] at hne
                rw [List.getElem?_set_ne (by omega)] at hne
                have hkS : k < listed.toList.length := by omega
                rw [List.getElem?_eq_getElem hkS] at hne ⊢
                rw [List.getElem?_replicate] at hne
                have : k - ((listed.toList.set i true).take (i + 1)).length < L.length - (i + 1) := by simp; omega
                simp only [this, if_true, ne_eq, Option.some.injEq] at hne ⊢
                simpa using hne
            rw [hcut]
            obtain ⟨σ', hσ'⟩ := foldS_last L ((listed.toList.set i true).take (i + 1) ++ List.replicate (L.length - (i + 1)) false) σ i (o, E) (by simp; omega) hE
              (by rw [List.getElem?_append_left (by simp; omega), List.getElem?_take_of_lt (by omega), List.getElem?_set_self (by omega)])
              (fun k h1 h2 => by
                rw [List.getElem?_append_right (by simp; omega), List.getElem?_replicate]
                have : k - ((listed.toList.set i true).take (i + 1)).length < L.length - (i + 1) := by simp; omega
                simp only [this, if_true])
            rw [hσ']
            exact look_app_wr (p := (o, E)) hw
          · have hR : look ((foldS L listed.toList σ).app o.dst E) κ = look (foldS L listed.toList σ) κ := look_app_not (p := (o, E)) hw
            rw [hR]
            refine foldS_look L _ _ σ σ hsl hSl rfl fun k pk hpk hne => ?_
            by_cases hki : k = i
            · subst hki
              rw [hE, Option.some.injEq] at hpk
              subst hpk
              exact hw
            · exfalso; apply hne
              rw [List.getElem?_set_ne (fun e => hki e.symm)]
        rw [hset]
        exact happ.congr (fun k => look_inl (hD (true, k))) (fun g => look_inr (hD (false, g))) (by rw [(foldS_meta _ _ σ).1]; exact ((foldS_meta L listed.toList σ).1).symm)
          (by rw [(foldS_meta _ _ σ).2]; exact ((foldS_meta L listed.toList σ).2).symm)
      have hstep' := hstep.mono (K' := wpAnyIn F n P .any ops Q fuel (listed.setIfInBounds i true)) fun a' w' hs' => by
        refine ih (listed.setIfInBounds i true) a' w' (by simpa using hls) ?_ ?_ hs'
        · have hset : (listed.setIfInBounds i true).toList = listed.toList.set i true := by simp
          rw [hset, List.countP_set (by omega)]
          have : listed.toList[i]'(by omega) = false := by simpa using hiF
          simp only [this]
          simp at hc ⊢
          omega
        · intro j hj o' ho' e he hb
          by_cases hji : j = i
          · subst hji
            rw [hoL, Option.some.injEq] at ho'
            subst ho'
            exact getD_set_true (hall e he hb)
          · rw [getD_set_ne false (fun h => hji h.symm)] at hj
            exact getD_set_true (hdown j hj o' ho' e he hb)
      unfold wpOpIn
      rw [ho]
      exact hstep'
  obtain ⟨β, Dm, hs⟩ := hs
  refine key ops.size (Array.replicate ops.size false) a _ (by simp [hsz]) (by simp [List.countP_replicate]) (fun j hj => ?_) ⟨β, Dm, ?_⟩
  · exfalso
    rcases Nat.lt_or_ge j ops.size with h | h
    · simp [h] at hj
    · simp [h] at hj
  · rw [foldS_none]
    · exact hs.drawn _
    · intro b hb
      simp only [Array.toList_replicate, List.mem_replicate] at hb
      exact hb.2

end Go.Proofs.Ytlehjapeomallaa.Sx
