/- What reading lists of small numbers tells. -/
import Derived.Test.YtaciigegbgnadaaPo
namespace Go.Proofs.Ytaciigegbgnadaa
open Go Tx Go.RowKit
set_option linter.unusedVariables false

theorem wf32 {a : Int} (h : (Lit.int .u32 a).wf = true) : 0 ≤ a ∧ a ≤ 4294967295 := by
  simp [Lit.wf, IntKind.min, IntKind.max, IntKind.bits, IntKind.signed] at h; omega
def shU : Shp := .int .u32
def shW : Shp := .int .u16
theorem op_u {w : World} {es : List Value} (h : shU.rd w es) : ∃ n : Int, es = [.int .u32 n] ∧ 0 ≤ n ∧ n ≤ 4294967295 := by
  simp only [shU, Shp.rd] at h
  obtain ⟨n, rfl, g⟩ := h
  exact ⟨n, rfl, wf32 g⟩
theorem op_w {w : World} {es : List Value} (h : shW.rd w es) : ∃ n : Int, es = [.int .u16 n] ∧ 0 ≤ n ∧ n ≤ 65535 := by
  simp only [shW, Shp.rd] at h
  obtain ⟨n, rfl, g⟩ := h
  exact ⟨n, rfl, wf16 g⟩
theorem op_us {w : World} {v : Value} (h : (Shp.sl 1 shU).rd w [v]) : ∃ (o : Option Addr) (c : Nat) (xs : List Int), v = .slice o xs.length c ∧ Rd 1 (fun n : Int => [Value.int .u32 n]) (.slice o xs.length c) xs w ∧ xs.length ≤ 9223372036854775807 ∧ ∀ x ∈ xs, 0 ≤ x ∧ x ≤ 4294967295 := by
  obtain ⟨o, c, xs, h1, h2, h3, h4⟩ := op_slc (f := fun n : Int => [Value.int .u32 n]) (Q := fun n => 0 ≤ n ∧ n ≤ 4294967295) (fun es h => op_u h) h
  simp only [List.cons.injEq, and_true] at h1
  exact ⟨o, c, xs, h1, h2, h3, h4⟩
theorem op_ws {w : World} {v : Value} (h : (Shp.sl 1 shW).rd w [v]) : ∃ (o : Option Addr) (c : Nat) (xs : List Int), v = .slice o xs.length c ∧ Rd 1 (fun n : Int => [Value.int .u16 n]) (.slice o xs.length c) xs w ∧ xs.length ≤ 9223372036854775807 ∧ ∀ x ∈ xs, 0 ≤ x ∧ x ≤ 65535 := by
  obtain ⟨o, c, xs, h1, h2, h3, h4⟩ := op_slc (f := fun n : Int => [Value.int .u16 n]) (Q := fun n => 0 ≤ n ∧ n ≤ 65535) (fun es h => op_w h) h
  simp only [List.cons.injEq, and_true] at h1
  exact ⟨o, c, xs, h1, h2, h3, h4⟩
end Go.Proofs.Ytaciigegbgnadaa
