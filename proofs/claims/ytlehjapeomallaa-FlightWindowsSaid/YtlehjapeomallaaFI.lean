/- The examples of the document hold: wakes returns true. -/
import Derived.Test.YtlehjapeomallaaFH
namespace Go.Proofs.Ytlehjapeomallaa
open Go Sx Go.RowKit

theorem lp_cat (b : Nat) : catR (lpG b) lpB 100 = [138, 139, 140] := by kernel_rfl
theorem lp_catE (b : Nat) : catE (lpG b) lpB 100 = 0 := by kernel_rfl
def lpN : Nt := ⟨⟨300000, 600000⟩, 0⟩
theorem lp_tk : ((lpF.ok && lpN.ok) && tk lpF lpN) = true := by kernel_rfl

theorem swing_ex (w : World) : Calls Try.prog 18 #[iv 10000, iv 20] w fun e w' => e = .returned (.tuple #[.agg #[iv 634, iv 648], iv 0]) ∧ Below w.heap.size w w' := by
  have h1 : swg (39478417600 * 10000) = 634 := (IsSw.eq ⟨by decide, by decide, by decide, by decide⟩).symm
  have h2 : swg (39478418000 * 10000) = 634 := (IsSw.eq ⟨by decide, by decide, by decide, by decide⟩).symm
  have h3 : hiT 10000 = 635 := by unfold hiT; rw [h2]; decide
  have := Swing_good 10000 20 w (by omega) (by omega)
  rw [h1, h3] at this
  exact this
theorem after_ex (w : World) : Calls Try.prog 41 #[lpF.v, iv 40] w fun e w' => e = .returned (.tuple #[(⟨⟨120000, 121000⟩, ⟨501600, 502000⟩⟩ : Bx).v, iv 0]) ∧ Below w.heap.size w w' := After_ok lpF 40 w
theorem takes_ex (w : World) : Calls Try.prog 36 #[lpF.v, lpN.v] w fun e w' => e = .returned (.tuple #[.bool true, iv 0]) ∧ Below w.heap.size w w' := by
  have := Takes_ok lpF lpN w
  rwa [lp_tk] at this
theorem catches_ex (b : Nat) (w : World) (hrd : Rd 4 Bx.cs (.slice (some ⟨b, 0, none⟩) 1 1) lpB w) :
    Calls Try.prog 24 #[(lpG b).v, iv 100] w fun e w' => ∃ y : Option Addr × Nat, e = .returned (.tuple #[sV 3 y, iv 0]) ∧ Below w.heap.size w w' ∧ St w.heap.size (Rd 1 iF (sV 3 y) [138, 139, 140]) w' := by
  have := Catches_ok (lpG b) lpB 100 w hrd (by decide)
  rwa [lp_cat, lp_catE] at this

theorem ints_ex (y z : Option Addr × Nat) (w : World) (hx : Rd 1 iF (sV 3 y) [138, 139, 140] w) (hy : Rd 1 iF (sV 3 z) [138, 139, 140] w) :
    Calls Try.prog 27 #[sV 3 y, sV 3 z] w fun e w' => e = .returned (.bool true) ∧ Below w.heap.size w w' := ints_ok y z [138, 139, 140] [138, 139, 140] w hx hy (by decide)

set_option maxRecDepth 100000 in
theorem wakes_ok (w : World) : Calls Try.prog 20 #[] w fun e w' => e = .returned (.bool true) ∧ Below w.heap.size w w' := by
  refine calls_val env mixed Try.func20 has20 Try.ntmps20 [] (by simp) ?_
  repeat
    conv => whnf
    first
      | refine And.intro (a := drawB _ = true) (by kernel_rfl) ?_
      | refine And.intro (a := (_ : Bool) = true) rfl ?_
      | refine And.intro (a := (_ : Bool) = true ∧ (_ : Bool) = true) ⟨rfl, rfl⟩ ?_
      | refine And.intro (a := (_ : Bool) = true ∧ (_ : List _) = []) ⟨rfl, rfl⟩ ?_
      | refine And.intro (a := IR _ _) (And.intro (by omega) (by omega)) ?_
      | refine And.intro (a := (0 : Int) ≤ _ ∧ _ < _) (And.intro (by omega) (by omega)) ?_
      | refine splT ?_
      | refine splF ?_
      | refine splNot ?_
      | ((with_reducible show CallEv _ _ 18 _ _ _ _ _); refine callE (k := 18) (fun β w' hbw => swing_ex _) ?_)
      | ((with_reducible show CallEv _ _ 41 _ _ _ _ _); refine callE (k := 41) (fun β w' hbw => after_ex _) ?_)
      | ((with_reducible show CallEv _ _ 36 _ _ _ _ _); refine callE (k := 36) (fun β w' hbw => takes_ex _) ?_)
      | ((with_reducible show CallEv _ _ 57 _ _ _ _ _); refine callF [] (fun b => (lpG b).v) (fun b => Rd 4 Bx.cs (.slice (some ⟨b, 0, none⟩) 1 1) lpB) (fun β w' _ _ => leap_ok w') ?_; intro b)
      | ((with_reducible show CallEv _ _ 24 _ _ _ _ _); refine callF [] (fun y => .tuple #[sV 3 y, iv 0]) (fun y => Rd 1 iF (sV 3 y) [138, 139, 140]) (fun β w' _ hbw => catches_ex b w' hbw.2) ?_; intro y)
      | refine eqlE23 (a := ⟨_, _⟩) (b := ⟨_, _⟩) ?_
      | refine eqlE47 (a := ⟨⟨_, _⟩, ⟨_, _⟩⟩) (b := ⟨⟨_, _⟩, ⟨_, _⟩⟩) ?_
      | ((with_reducible show CallEv _ _ 27 _ _ _ _ _); refine callM (k := 27) [2] (fun β w' hbk hbw => ints_ex y (some ⟨β 2, 0, none⟩, 3) w' hbw.1.2 (Rd.of_cells (sz := 1) (f := iF) (bs := [138, 139, 140]) (fun _ => rfl) rfl (hbk 2 (by simp) _ rfl))) ?_)
  exact ⟨fun β => rfl, fun w' h => h.1.1.1.1⟩
end Go.Proofs.Ytlehjapeomallaa
