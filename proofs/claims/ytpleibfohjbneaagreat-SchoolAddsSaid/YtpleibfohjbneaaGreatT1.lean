/- SchoolAdds: whatever the arguments, the law answers true. -/
import Derived.Test.YtpleibfohjbneaaGreatS7
import Derived.Test.YtpleibfohjbneaaGreatS9
namespace Go.Proofs.YtpleibfohjbneaaGreat
open Go Tx Go.RowKit
set_option linter.unusedSimpArgs false
set_option linter.unusedVariables false

theorem op_cap {w : World} {sz : Nat} {e : Shp} {o : Option Addr} {n c : Nat} (h : (Shp.sl sz e).rd w [.slice o n c]) : n ≤ c := by
  unfold Shp.rd at h
  rcases h with h | ⟨a, n', c', h, h1, _⟩
  · simp only [List.cons.injEq, Value.slice.injEq, and_true] at h
    omega
  · simp only [List.cons.injEq, Value.slice.injEq, and_true] at h
    omega
theorem SchoolAdds_ok (x : Cr) (o : Option Addr) (c : Nat) (S : List Sy) (tn : Int) (w : World) (hX : CrX x w) (hY : SyX o c S w) (hcap : S.length ≤ c) (ht : 0 ≤ tn ∧ tn ≤ 255) :
    Calls Tryz.prog 7 #[x.v, .slice o S.length c, .int .u8 tn] w fun e w' => e = .returned (.bool true) ∧ Below w.heap.size w w' := by
  obtain ⟨no, nc, N, wk, co, cc, C⟩ := x
  by_cases hb : crOk N wk (C.map Rw.xs) = true ∧ shB (S.map Sy.d) = true ∧ stE N.length (C.map Rw.xs).length wk (S.map Sy.d) = 0 ∧ S ≠ []
  · obtain ⟨hc, hs, hF, h0⟩ := hb
    have hI : CrIn ⟨no, nc, N, wk, co, cc, C⟩ w := hX.cin (thB_ofA (wk := wk) hc)
    have hJ := hY.sin hs
    have hE : ckE N wk (C.map Rw.xs) (S.map Sy.d) = 0 := ckE_of hc hF
    have h1 : 1 ≤ S.length := by cases S with | nil => exact absurd rfl h0 | cons a S => simp
    have hy := YrOk.of hE
    have h60 : S.length ≤ 100 := by have h1 := hy.sl; have h2 := hy.w; rw [List.length_map] at h1; omega
    exact Ad_top no nc N wk co cc C o c S tn w hI hJ hY hc hs hF h1 <| Ad4 no nc N wk co cc C o c S tn w hI hJ hE h1 ht fun k u hk =>
      Ad5 no nc N wk co cc C o c S tn w k u hI hJ hE hk hcap h60 fun v => Ad6 no nc N wk co cc C o c S tn w u v hI hJ hE h1 hcap h60 fun x =>
        Ad7 no nc N wk co cc C o c S tn w u v x hI hE fun y => Ad8 no nc N wk co cc C o c S tn w u v x y hI hE <|
          Ad9 no nc N wk co cc C o c S tn w u v x y hI hJ hE fun z => Ad10 no nc N wk co cc C o c S tn w u v x z hI hJ hE h1
  · exact Ad_bad no nc N wk co cc C o c S tn w hX hY hb
end Go.Proofs.YtpleibfohjbneaaGreat
