/- Fees that are right: what fees returns. -/
import Derived.Test.YthfabodamhdhaaaRV
namespace Go.Proofs.Ythfabodamhdhaaa
open Go Tx Go.RowKit
set_option linter.unusedSimpArgs false
set_option linter.unusedVariables false
def feB (n : Nat) (F : List Int) : Bool := decide (F.length = n) && (decide (F[0]? = some 0) && F.all fun n : Int => inB n 0 1000000000)
set_option maxHeartbeats 1000000 in
set_option maxRecDepth 100000 in
theorem fees_ok (x : Tr) (o : Option Addr) (c : Nat) (F : List Int) (w : World) (hF : Rd 1 iF (.slice o F.length c) F w) (hl : F.length ≤ 1000000) (hT : 1 ≤ x.T.length) :
 Calls Try.prog 65 #[x.v, .slice o F.length c] w fun e w' => e = .returned (.bool (feB x.T.length F)) ∧ Below w.heap.size w w' := by
 have hv := fun w' hb => all105_ok F o c w' (hF.below hb) hl
 obtain ⟨days, shift, size, to, tc, T, lo, lc, L⟩ := x
 dsimp only at hT ⊢
 refine calls_val env mixed Try.func65 has65 Try.ntmps65 [.agg #[iv days, iv shift, iv size, .slice to T.length tc, .slice lo L.length lc], .slice o F.length c] (by simp) ?_
 unfold feB
 obtain ⟨va, hva⟩ : ∃ v, (F.all fun n : Int => inB n 0 1000000000) = v := ⟨_, rfl⟩
 rw [hva] at hv ⊢
 by_cases hn : F.length = T.length
 · obtain ⟨f0, hf0⟩ : ∃ f, F[0]? = some f := ⟨_, List.getElem?_eq_getElem (by omega)⟩
   obtain ⟨_, ad, rfl, _⟩ := hF.ptr (by omega)
   have e0 := fun (w' : World) hw' => rd_atz (hF.below (w' := w') hw') hf0 (0 : Int) rfl
   rw [decide_eq_true hn, Bool.true_and, hf0]
   by_cases h0 : f0 = 0
   · subst h0
     rw [decide_eq_true rfl, Bool.true_and]
     cases va
     all_goals skip
     repeat'
      conv => whnf
      first
       | refine zA ?_ | refine zB ?_ | refine zC ?_ | refine zD ?_ | refine zE ?_ | refine zF ?_ | refine zG ?_ | refine zH ?_ | refine zJ ?_ | refine zI ?_ | refine splT ?_ | refine splF ?_ | refine splNot ?_
       | ((first | refine splIn ?_ ?_ | refine splD ?_ ?_ | refine splE ?_ ?_ | refine splNE ?_ ?_) <;> intro hc <;> first | (exfalso; omega) | (exfalso; dsimp only at hc; omega) | skip)
       | refine Exists.intro (α := List Value) [iv 0] ⟨⟨rfl, fun w' hw' => e0 w' hw'⟩, ?_⟩
       | ((with_reducible show CallEv _ _ 79 _ _ _ _ _); refine callE (k := 79) (fun β w' hbw => hv _ hbw) ?_)
     all_goals first | (exfalso; omega) | exact ⟨fun β => rfl, fun w' h => h⟩
   · rw [decide_eq_false (by simpa using h0), Bool.false_and]
     cases va
     all_goals skip
     repeat'
      conv => whnf
      first
       | refine zA ?_ | refine zB ?_ | refine zC ?_ | refine zD ?_ | refine zE ?_ | refine zF ?_ | refine zG ?_ | refine zH ?_ | refine zJ ?_ | refine zI ?_ | refine splT ?_ | refine splF ?_ | refine splNot ?_
       | ((first | refine splIn ?_ ?_ | refine splD ?_ ?_ | refine splE ?_ ?_ | refine splNE ?_ ?_) <;> intro hc <;> first | (exfalso; omega) | (exfalso; dsimp only at hc; omega) | skip)
       | refine Exists.intro (α := List Value) [iv f0] ⟨⟨rfl, fun w' hw' => e0 w' hw'⟩, ?_⟩
       | ((with_reducible show CallEv _ _ 79 _ _ _ _ _); refine callE (k := 79) (fun β w' hbw => hv _ hbw) ?_)
     all_goals first | (exfalso; omega) | exact ⟨fun β => rfl, fun w' h => h⟩
 · rw [decide_eq_false hn, Bool.false_and]
   repeat'
    conv => whnf
    first
     | refine zA ?_ | refine zB ?_ | refine zC ?_ | refine zD ?_ | refine zE ?_ | refine zF ?_ | refine zG ?_ | refine zH ?_ | refine zJ ?_ | refine zI ?_ | refine splT ?_ | refine splF ?_ | refine splNot ?_
     | ((first | refine splIn ?_ ?_ | refine splD ?_ ?_ | refine splE ?_ ?_ | refine splNE ?_ ?_) <;> intro hc <;> first | (exfalso; omega) | (exfalso; dsimp only at hc; omega) | skip)
   all_goals first | (exfalso; omega) | exact ⟨fun β => rfl, fun w' h => h⟩
end Go.Proofs.Ythfabodamhdhaaa
