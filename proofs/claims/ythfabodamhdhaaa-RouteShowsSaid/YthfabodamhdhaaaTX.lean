/- The bound of a table that is told in own memory, by the reference. -/
import Derived.Test.YthfabodamhdhaaaTG
import Derived.Test.YthfabodamhdhaaaTO
namespace Go.Proofs.Ythfabodamhdhaaa
open Go Tx Go.RowKit
set_option linter.unusedSimpArgs false
set_option linter.unusedVariables false

/-- The bound of a table, by the reference. -/
theorem rb_of {m N n : Nat} {z : TbG} {C : List (List Int)} {M : Int} {w : World} (hz : TbIn m N z C w) (hC : TbS n N M C) (hM : M ≤ 5000000000000) (hn : 1 ≤ n ∧ n ≤ 1000) (hN : 1 ≤ N ∧ N ≤ 1000) (o : Option Addr) (c : Nat) (F : List Int) (hF : Rd 1 iF (.slice o F.length c) F w) (hl : F.length ≤ 100) (hb : FeB F) :
    Calls Try.prog 32 #[.slice o F.length c, z.v] w fun e w' => e = .returned (iv (bdO F C)) ∧ Below w.heap.size w w' := by
  have hl1 := hz.l
  have hl2 := hC.l
  obtain ⟨p, hp⟩ : ∃ p, z.D[0]? = some p := ⟨_, List.getElem?_eq_getElem (by omega)⟩
  obtain ⟨xs, hxs⟩ : ∃ xs, C[0]? = some xs := ⟨_, List.getElem?_eq_getElem (by omega)⟩
  have hxn := hC.n xs (List.mem_of_getElem? hxs)
  obtain ⟨v, hv⟩ : ∃ v, xs[0]? = some v := ⟨_, List.getElem?_eq_getElem (by omega)⟩
  have hvb := hC.b xs (List.mem_of_getElem? hxs) v (List.mem_of_getElem? hv)
  have hbd : bdO F C = smO F v := by unfold bdO tbO; rw [hxs, Option.getD_some, hv]; rfl
  rw [hbd]
  have := rbound_ok o c F (some ⟨z.o, 0, none⟩) z.c (z.rw C) ⟨some ⟨p.1, 0, none⟩, p.2, xs⟩ v w hF hl hb (by rw [TbG.rw_len hz.l]; exact hz.out) (TbG.rw_at hp hxs) (hz.row _ (List.mem_of_getElem? (TbG.rw_at hp hxs))) hv (by omega) (by rw [TbG.rw_len hz.l]; omega) (by show xs.length ≤ 1000000; omega)
  rw [TbG.rw_len hz.l] at this
  exact this
end Go.Proofs.Ythfabodamhdhaaa
