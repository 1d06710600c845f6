/- Whether a stop fits, is licensed: what these functions return. -/
import Derived.Test.YthfabodamhdhaaaRK
namespace Go.Proofs.Ythfabodamhdhaaa
open Go Tx Go.RowKit
set_option linter.unusedSimpArgs false
set_option linter.unusedVariables false
def fitB (r1 r2 f l : Int) : Bool := decide (f ≤ l) && (decide (l - f < 10) && inB (l - f + 1) r1 r2)
theorem cv200 (t : Int) : RunIs Try.prog (convert 3 200 (.int .i64 t)) (.int .u64 (IntKind.u64.wrap t)) := fun w => by
 have h200 : Try.prog.underlying 200 = some (.int .u64) := by kernel_rfl
 simp [convert, Conv.intToInt, Go.run_underlying h200 w, Go.run_underlying under3 w]
theorem w64_sub (l f : Int) (h : 0 ≤ l - f ∧ l - f ≤ 18446744073709551615) : l - f = IntKind.u64.wrap (IntKind.u64.wrap l - IntKind.u64.wrap f) := by
 have e : ∀ x : Int, IntKind.u64.wrap x = x % 18446744073709551616 := fun x => by
  simp only [IntKind.wrap, IntKind.bits, IntKind.signed]; simp
 rw [e, e, e]; omega
set_option maxRecDepth 100000 in
theorem fits_ok (k f l r1 r2 : Int) (w : World) (hf : -9223372036854775808 ≤ f ∧ f ≤ 9223372036854775807) (hl : -9223372036854775808 ≤ l ∧ l ≤ 9223372036854775807) : Calls Try.prog 147 #[.agg #[iv k, iv f, iv l], .agg #[iv r1, iv r2]] w fun e w' => e = .returned (.bool (fitB r1 r2 f l)) ∧ Below w.heap.size w w' := by
 refine calls_val env mixed Try.func147 has147 Try.ntmps147 [.agg #[iv k, iv f, iv l], .agg #[iv r1, iv r2]] (by simp) ?_
 have hv := fun w' => has_ok r1 r2 (l - f + 1) w'
 have hsub := w64_sub l f
 have cl := cv200 l
 have cf := cv200 f
 generalize hul : IntKind.u64.wrap l = ul at *
 generalize huf : IntKind.u64.wrap f = uf at *
 repeat'
  conv => whnf
  first
   | refine zA ?_ | refine zB ?_ | refine zC ?_ | refine zD ?_ | refine zE ?_ | refine zF ?_ | refine zG ?_ | refine zH ?_ | refine zJ ?_ | refine zI ?_ | refine splT ?_ | refine splF ?_ | refine splNot ?_
   | ((first | refine splIn ?_ ?_ | refine splD ?_ ?_ | refine splE ?_ ?_ | refine splNE ?_ ?_) <;> intro hc <;> first | (exfalso; omega) | (exfalso; dsimp only at hc; omega) | skip)
   | refine Exists.intro (α := Value) (.int .u64 ul) ⟨cl, ?_⟩
   | refine Exists.intro (α := Value) (.int .u64 uf) ⟨cf, ?_⟩
   | refine Exists.intro (α := Int) (l - f) ⟨hsub (by omega), ?_⟩
   | ((with_reducible show CallEv _ _ 166 _ _ _ _ _); refine callE (k := 166) (fun β w' hbw => hv _) ?_)
 all_goals first | (exfalso; omega) | exact ⟨fun β => congrArg Value.bool (by simp [fitB, *]; done), fun w' h => h⟩
def licB (O : List (Int × Int)) (f l : Int) : Bool := O.any fun r => inB f r.1 r.2 && inB l r.1 r.2
set_option maxHeartbeats 2000000 in
set_option maxRecDepth 100000 in
theorem licensed_ok (t : Tn) (k f l : Int) (w : World) (h : TnIn t w) : Calls Try.prog 149 #[.agg t.cs.toArray, .agg #[iv k, iv f, iv l]] w fun e w' => e = .returned (.bool (licB t.d.O f l)) ∧ Below w.heap.size w w' := by
 obtain ⟨oo, oc, ro, rc, O, s1, s2, pay, lot, rent, R, cold, cut⟩ := t
 obtain ⟨hO, hR, hol, hrl⟩ := h
 dsimp only at hO hR hol hrl ⊢
 refine calls_val env mixed Try.func149 has149 Try.ntmps149 [.agg #[.slice oo O.length oc, iv s1, iv s2, iv pay, iv lot, iv rent, .slice ro R.length rc, iv cold, iv cut], .agg #[iv k, iv f, iv l]] (by simp) ?_
 repeat'
  conv => whnf
  first
   | refine zA ?_ | refine zB ?_ | refine zC ?_ | refine zD ?_ | refine zE ?_ | refine zF ?_ | refine zG ?_ | refine zH ?_ | refine zJ ?_ | refine zI ?_ | refine splT ?_ | refine splF ?_ | refine splNot ?_
   | ((first | refine splIn ?_ ?_ | refine splD ?_ ?_ | refine splE ?_ ?_ | refine splNE ?_ ?_) <;> intro hc <;> first | (exfalso; omega) | (exfalso; dsimp only at hc; omega) | skip)
 refine loopE (fun i : Nat => [(2, .ptr 0 0), (3, .ptr 1 0), (5, .v (.bool false)), (11, .v (.slice oo O.length oc)), (12, .v (iv O.length)), (13, .v (iv i))]) (fun _ => [(1, .cells [.v (iv k), .v (iv f), .v (iv l)] 96), (0, .cells [.v (.slice oo O.length oc), .v (iv s1), .v (iv s2), .v (iv pay), .v (iv lot), .v (iv rent), .v (.slice ro R.length rc), .v (iv cold), .v (iv cut)] 57)]) (fun i => i ≤ O.length ∧ licB (O.take i) f l = false) (fun i => O.length - i) 0 ⟨Nat.zero_le _, rfl⟩ ⟨rfl, rfl, rfl, rfl, rfl, rfl, trivial⟩ ⟨rfl, rfl, trivial⟩ (fun _ => ⟨rfl, rfl⟩) ?_
 intro i ⟨hi, hall⟩
 rcases Nat.lt_or_ge i O.length with hil | hil
 · obtain ⟨⟨r1, r2⟩, hx⟩ : ∃ b, O[i]? = some b := ⟨_, List.getElem?_eq_getElem hil⟩
   obtain ⟨_, ad, rfl, _⟩ := hO.ptr (by omega)
   have e0 := fun (w' : World) hw' => rd_ati (hO.below (w' := w') hw') hx
   have ht : licB (O.take (i + 1)) f l = (inB f r1 r2 && inB l r1 r2) := by
    unfold licB
    rw [any_take hx, show (O.take i).any (fun r => inB f r.1 r.2 && inB l r.1 r.2) = false from hall, Bool.false_or]
   have hyes : (inB f r1 r2 && inB l r1 r2) = true → licB O f l = true := fun h => any_yes (p := fun r : Int × Int => inB f r.1 r.2 && inB l r.1 r.2) hx h
   have hf := fun w' => has_ok r1 r2 f w'
   have hl := fun w' => has_ok r1 r2 l w'
   obtain ⟨b1, h1⟩ : ∃ b, inB f r1 r2 = b := ⟨_, rfl⟩
   obtain ⟨b2, h2⟩ : ∃ b, inB l r1 r2 = b := ⟨_, rfl⟩
   rw [h1, h2] at hyes ht
   rw [h1] at hf
   rw [h2] at hl
   repeat'
    conv => whnf
    first
     | refine zA ?_ | refine zB ?_ | refine zC ?_ | refine zD ?_ | refine zE ?_ | refine zF ?_ | refine zG ?_ | refine zH ?_ | refine zJ ?_ | refine zI ?_ | refine splT ?_ | refine splF ?_ | refine splNot ?_
     | ((first | refine splIn ?_ ?_ | refine splD ?_ ?_ | refine splE ?_ ?_ | refine splNE ?_ ?_) <;> intro hc <;> first | (exfalso; omega) | (exfalso; dsimp only at hc; omega) | skip)
     | refine Exists.intro (α := List Value) [iv r1, iv r2] ⟨⟨rfl, fun w' hw' => e0 w' hw'⟩, ?_⟩
   all_goals first | (exfalso; omega) | skip
   refine loopE (fun j : Nat => [(2, .ptr 0 0), (3, .ptr 1 0), (5, .v (.bool false)), (11, .v (.slice (some ad) O.length oc)), (12, .v (iv O.length)), (13, .v (iv i)), (7, .ptr 2 0), (21, .agg [.v (iv f), .v (iv l)]), (22, .v (iv j))]) (fun _ => [(2, .cells [.v (iv r1), .v (iv r2)] 55), (1, .cells [.v (iv k), .v (iv f), .v (iv l)] 96), (0, .cells [.v (.slice (some ad) O.length oc), .v (iv s1), .v (iv s2), .v (iv pay), .v (iv lot), .v (iv rent), .v (.slice ro R.length rc), .v (iv cold), .v (iv cut)] 57)]) (fun j => j ≤ 2 ∧ (1 ≤ j → b1 = true) ∧ (2 ≤ j → b2 = true)) (fun j => 2 - j) 0 ⟨by decide, by omega, by omega⟩ ⟨rfl, rfl, rfl, rfl, rfl, rfl, rfl, rfl, rfl, trivial⟩ ⟨rfl, rfl, rfl, trivial⟩ (fun _ => ⟨rfl, rfl⟩) ?_
   intro j ⟨hj, hj1, hj2⟩
   obtain rfl | rfl | rfl : j = 0 ∨ j = 1 ∨ j = 2 := by omega
   · cases b1 with
     | true =>
      repeat'
       conv => whnf
       first
        | refine zA ?_ | refine zB ?_ | refine zC ?_ | refine zD ?_ | refine zE ?_ | refine zF ?_ | refine zG ?_ | refine zH ?_ | refine zJ ?_ | refine zI ?_ | refine splT ?_ | refine splF ?_ | refine splNot ?_
        | ((first | refine splIn ?_ ?_ | refine splD ?_ ?_ | refine splE ?_ ?_ | refine splNE ?_ ?_) <;> intro hc <;> first | (exfalso; omega) | (exfalso; dsimp only at hc; omega) | skip)
        | refine idxS env rfl rfl rfl rfl (And.intro (by omega) (by omega)) rfl rfl (.inr ⟨rfl, rfl⟩) rfl ?_
        | ((with_reducible show CallEv _ _ 166 _ _ _ _ _); refine callE (k := 166) (fun β w' hbw => hf _) ?_)
      all_goals first | (exfalso; omega) | exact ⟨1, ⟨by omega, fun _ => rfl, by omega⟩, by omega, Ent.weak rfl ⟨rfl, rfl, rfl, rfl, rfl, rfl, rfl, rfl, rfl, trivial⟩ ⟨rfl, rfl, rfl, trivial⟩ fun _ h => h⟩
     | false =>
      repeat'
       conv => whnf
       first
        | refine zA ?_ | refine zB ?_ | refine zC ?_ | refine zD ?_ | refine zE ?_ | refine zF ?_ | refine zG ?_ | refine zH ?_ | refine zJ ?_ | refine zI ?_ | refine splT ?_ | refine splF ?_ | refine splNot ?_
        | ((first | refine splIn ?_ ?_ | refine splD ?_ ?_ | refine splE ?_ ?_ | refine splNE ?_ ?_) <;> intro hc <;> first | (exfalso; omega) | (exfalso; dsimp only at hc; omega) | skip)
        | refine idxS env rfl rfl rfl rfl (And.intro (by omega) (by omega)) rfl rfl (.inr ⟨rfl, rfl⟩) rfl ?_
        | ((with_reducible show CallEv _ _ 166 _ _ _ _ _); refine callE (k := 166) (fun β w' hbw => hf _) ?_)
      all_goals first | (exfalso; omega) | exact ⟨i + 1, ⟨by omega, ht⟩, by omega, Ent.weak rfl ⟨rfl, rfl, rfl, rfl, rfl, rfl, trivial⟩ ⟨rfl, rfl, trivial⟩ fun _ h => h⟩
   · obtain rfl := hj1 (by omega)
     cases b2 with
     | true =>
      repeat'
       conv => whnf
       first
        | refine zA ?_ | refine zB ?_ | refine zC ?_ | refine zD ?_ | refine zE ?_ | refine zF ?_ | refine zG ?_ | refine zH ?_ | refine zJ ?_ | refine zI ?_ | refine splT ?_ | refine splF ?_ | refine splNot ?_
        | ((first | refine splIn ?_ ?_ | refine splD ?_ ?_ | refine splE ?_ ?_ | refine splNE ?_ ?_) <;> intro hc <;> first | (exfalso; omega) | (exfalso; dsimp only at hc; omega) | skip)
        | refine idxS env rfl rfl rfl rfl (And.intro (by omega) (by omega)) rfl rfl (.inr ⟨rfl, rfl⟩) rfl ?_
        | ((with_reducible show CallEv _ _ 166 _ _ _ _ _); refine callE (k := 166) (fun β w' hbw => hl _) ?_)
      all_goals first | (exfalso; omega) | exact ⟨2, ⟨by omega, fun _ => rfl, fun _ => rfl⟩, by omega, Ent.weak rfl ⟨rfl, rfl, rfl, rfl, rfl, rfl, rfl, rfl, rfl, trivial⟩ ⟨rfl, rfl, rfl, trivial⟩ fun _ h => h⟩
     | false =>
      repeat'
       conv => whnf
       first
        | refine zA ?_ | refine zB ?_ | refine zC ?_ | refine zD ?_ | refine zE ?_ | refine zF ?_ | refine zG ?_ | refine zH ?_ | refine zJ ?_ | refine zI ?_ | refine splT ?_ | refine splF ?_ | refine splNot ?_
        | ((first | refine splIn ?_ ?_ | refine splD ?_ ?_ | refine splE ?_ ?_ | refine splNE ?_ ?_) <;> intro hc <;> first | (exfalso; omega) | (exfalso; dsimp only at hc; omega) | skip)
        | refine idxS env rfl rfl rfl rfl (And.intro (by omega) (by omega)) rfl rfl (.inr ⟨rfl, rfl⟩) rfl ?_
        | ((with_reducible show CallEv _ _ 166 _ _ _ _ _); refine callE (k := 166) (fun β w' hbw => hl _) ?_)
      all_goals first | (exfalso; omega) | exact ⟨i + 1, ⟨by omega, ht⟩, by omega, Ent.weak rfl ⟨rfl, rfl, rfl, rfl, rfl, rfl, trivial⟩ ⟨rfl, rfl, trivial⟩ fun _ h => h⟩
   · obtain rfl := hj1 (by omega)
     obtain rfl := hj2 (by omega)
     rw [hyes rfl]
     repeat'
      conv => whnf
      first
       | refine zA ?_ | refine zB ?_ | refine zC ?_ | refine zD ?_ | refine zE ?_ | refine zF ?_ | refine zG ?_ | refine zH ?_ | refine zJ ?_ | refine zI ?_ | refine splT ?_ | refine splF ?_ | refine splNot ?_
       | ((first | refine splIn ?_ ?_ | refine splD ?_ ?_ | refine splE ?_ ?_ | refine splNE ?_ ?_) <;> intro hc <;> first | (exfalso; omega) | (exfalso; dsimp only at hc; omega) | skip)
     all_goals first | (exfalso; omega) | exact ⟨fun β => rfl, fun w' h => h⟩
 · rw [List.take_of_length_le hil] at hall
   rw [hall]
   repeat'
    conv => whnf
    first
     | refine zA ?_ | refine zB ?_ | refine zC ?_ | refine zD ?_ | refine zE ?_ | refine zF ?_ | refine zG ?_ | refine zH ?_ | refine zJ ?_ | refine zI ?_ | refine splT ?_ | refine splF ?_ | refine splNot ?_
     | ((first | refine splIn ?_ ?_ | refine splD ?_ ?_ | refine splE ?_ ?_ | refine splNE ?_ ?_) <;> intro hc <;> first | (exfalso; omega) | (exfalso; dsimp only at hc; omega) | skip)
   all_goals first | (exfalso; omega) | exact ⟨fun β => rfl, fun w' h => h⟩
end Go.Proofs.Ythfabodamhdhaaa
