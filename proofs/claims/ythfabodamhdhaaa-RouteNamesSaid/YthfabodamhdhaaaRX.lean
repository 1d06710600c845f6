/- The bound, from the fees and the table: what bounded returns. -/
import Derived.Test.YthfabodamhdhaaaRW
namespace Go.Proofs.Ythfabodamhdhaaa
open Go Tx Go.RowKit
set_option linter.unusedSimpArgs false
set_option linter.unusedVariables false
structure Iw where
 o : Option Addr
 c : Nat
 xs : List Int
abbrev Iw.cs (r : Iw) : List Value := [.slice r.o r.xs.length r.c]
def smO : List Int → Int → Int
 | [], n => n
 | f :: F, n => smO F (n + f)
theorem smO_snoc (f : Int) : ∀ (F : List Int) (n : Int), smO (F ++ [f]) n = smO F n + f
 | [], _ => rfl
 | g :: F, n => smO_snoc f F (n + g)
theorem smO_bd : ∀ (F : List Int) (n : Int), (∀ f ∈ F, 0 ≤ f ∧ f ≤ 1000000000) → n ≤ smO F n ∧ smO F n ≤ n + 1000000000 * F.length
 | [], n, _ => by simp [smO]
 | g :: F, n, h => by
  have h1 := h g (List.mem_cons_self ..)
  have h2 := smO_bd F (n + g) (fun f hf => h f (List.mem_cons_of_mem _ hf))
  simp only [smO, List.length_cons]
  omega
set_option maxHeartbeats 1000000 in
set_option maxRecDepth 100000 in
theorem bounded_ok (o : Option Addr) (c : Nat) (F : List Int) (to : Option Addr) (tc : Nat) (R : List Iw) (r : Iw) (z : Int) (w : World) (hF : Rd 1 iF (.slice o F.length c) F w) (hl : F.length ≤ 100) (hb : ∀ f ∈ F, 0 ≤ f ∧ f ≤ 1000000000)
 (hR : Rd 1 Iw.cs (.slice to R.length tc) R w) (hr : R[0]? = some r) (hrd : Rd 1 iF (.slice r.o r.xs.length r.c) r.xs w) (hz : r.xs[0]? = some z) (hzb : -5000000000000 ≤ z ∧ z ≤ 5000000000000) (hRl : R.length ≤ 1000000) (hrl : r.xs.length ≤ 1000000) :
 Calls Try.prog 67 #[.slice o F.length c, .slice to R.length tc] w fun e w' => e = .returned (iv (smO F z)) ∧ Below w.heap.size w w' := by
 obtain ⟨ro, rc, xs⟩ := r
 dsimp only at hrd hz hrl
 have h1 := (List.getElem?_eq_some_iff.1 hr).1
 have h2 := (List.getElem?_eq_some_iff.1 hz).1
 obtain ⟨_, ta, rfl, _⟩ := hR.ptr (by omega)
 obtain ⟨_, ra, rfl, _⟩ := hrd.ptr (by omega)
 have e0 := fun (w' : World) hw' => rd_atz (hR.below (w' := w') hw') hr (0 : Int) rfl
 have e1 := fun (w' : World) hw' => rd_atz (hrd.below (w' := w') hw') hz (0 : Int) rfl
 refine calls_val env mixed Try.func67 has67 Try.ntmps67 [.slice o F.length c, .slice (some ta) R.length tc] (by simp) ?_
 repeat'
  conv => whnf
  first
   | refine zA ?_ | refine zB ?_ | refine zC ?_ | refine zD ?_ | refine zE ?_ | refine zF ?_ | refine zG ?_ | refine zH ?_ | refine zJ ?_ | refine zI ?_ | refine splT ?_ | refine splF ?_ | refine splNot ?_
   | ((first | refine splIn ?_ ?_ | refine splD ?_ ?_ | refine splE ?_ ?_ | refine splNE ?_ ?_) <;> intro hc <;> first | (exfalso; omega) | (exfalso; dsimp only at hc; omega) | skip)
   | refine Exists.intro (α := List Value) [.slice (some ra) xs.length rc] ⟨⟨rfl, fun w' hw' => e0 w' hw'⟩, ?_⟩
   | refine Exists.intro (α := List Value) [iv z] ⟨⟨rfl, fun w' hw' => e1 w' hw'⟩, ?_⟩
 all_goals first | (exfalso; omega) | skip
 refine loopE (fun i : Nat => [(5, .v (iv (smO (F.take i) z))), (13, .v (.slice o F.length c)), (14, .v (iv F.length)), (15, .v (iv i))]) (fun _ => []) (fun i => i ≤ F.length) (fun i => F.length - i) 0 (Nat.zero_le _) ⟨rfl, rfl, rfl, rfl, trivial⟩ trivial (fun _ => ⟨rfl, rfl⟩) ?_
 intro i hi
 have hbi := smO_bd (F.take i) z (fun f hf => hb f (List.mem_of_mem_take hf))
 have hti : (F.take i).length ≤ 100 := by rw [List.length_take]; omega
 rcases Nat.lt_or_ge i F.length with hil | hil
 · obtain ⟨f, hf⟩ : ∃ f, F[i]? = some f := ⟨_, List.getElem?_eq_getElem hil⟩
   obtain ⟨_, ad, rfl, _⟩ := hF.ptr (by omega)
   have e2 := fun (w' : World) hw' => rd_ati (hF.below (w' := w') hw') hf
   have hfb := hb f (List.mem_of_getElem? hf)
   have hs : smO (F.take (i + 1)) z = smO (F.take i) z + f := by rw [List.take_add_one, hf]; exact smO_snoc f _ z
   generalize smO (F.take i) z = N at *
   repeat'
    conv => whnf
    first
     | refine zA ?_ | refine zB ?_ | refine zC ?_ | refine zD ?_ | refine zE ?_ | refine zF ?_ | refine zG ?_ | refine zH ?_ | refine zJ ?_ | refine zI ?_ | refine splT ?_ | refine splF ?_ | refine splNot ?_
     | ((first | refine splIn ?_ ?_ | refine splD ?_ ?_ | refine splE ?_ ?_ | refine splNE ?_ ?_) <;> intro hc <;> first | (exfalso; omega) | (exfalso; dsimp only at hc; omega) | skip)
     | refine Exists.intro (α := List Value) [iv f] ⟨⟨rfl, fun w' hw' => e2 w' hw'⟩, ?_⟩
   all_goals first | (exfalso; omega) | exact ⟨i + 1, by omega, by omega, Ent.weak rfl ⟨by rw [hs]; rfl, rfl, rfl, rfl, trivial⟩ trivial fun _ h => h⟩
 · rw [List.take_of_length_le hil]
   repeat'
    conv => whnf
    first
     | refine zA ?_ | refine zB ?_ | refine zC ?_ | refine zD ?_ | refine zE ?_ | refine zF ?_ | refine zG ?_ | refine zH ?_ | refine zJ ?_ | refine zI ?_ | refine splT ?_ | refine splF ?_ | refine splNot ?_
     | ((first | refine splIn ?_ ?_ | refine splD ?_ ?_ | refine splE ?_ ?_ | refine splNE ?_ ?_) <;> intro hc <;> first | (exfalso; omega) | (exfalso; dsimp only at hc; omega) | skip)
   all_goals first | (exfalso; omega) | exact ⟨fun β => rfl, fun w' h => h⟩
end Go.Proofs.Ythfabodamhdhaaa
