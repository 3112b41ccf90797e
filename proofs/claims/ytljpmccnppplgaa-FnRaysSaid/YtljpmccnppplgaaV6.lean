/- The helpers of the great laws at lists of layers and of ints: sizes, comparisons. Lists of at most 1048576. -/
import Derived.Test.YtljpmccnppplgaaDr
import Derived.Test.YtljpmccnppplgaaInts
import Derived.Test.YtljpmccnppplgaaS6a
set_option linter.unusedVariables false
set_option linter.unusedSimpArgs false
namespace Go.Proofs.Ytljpmccnppplgaa
open Go.RowKit
set_option maxHeartbeats 2000000
theorem vBig (A : Option Addr) (n c : Nat) (w : World) :
    Calls Try.prog 40 #[.slice A n c] w fun e w' => e = .returned (.bool (decide ((65536 : Int) < (n : Int)))) ∧ w = w' := by
  go_enter Try.func40, Try.ntmps40
  go_wp2_with (fail)
  go_ret
  exact ⟨rfl, rfl⟩
theorem vInts (A B : Option Addr) (c d : Nat) (l : List Int) (w : World) (h : Sl 1 encI w A l) (h2 : Sl 1 encI w B l) (hn : l.length ≤ 1048576) :
    Calls Try.prog 50 #[.slice A l.length c, .slice B l.length d] w fun e w' => e = .returned (.bool true) ∧ Below w.heap.size w w' := by
  go_enter Try.func50, Try.ntmps50
  go_wp2
  go_loopw [5] (fun i wr => ∃ k : Nat, k ≤ l.length ∧ i = .int .i64 k ∧ Below w.heap.size w wr) (fun i _ => l.length - (intOf i).toNat)
  case atStart => exact ⟨0, Nat.zero_le _, rfl, Below.refl _ _⟩
  case round =>
    obtain ⟨k, hk, rfl, hb⟩ := hrel
    by_cases hlt : k < l.length
    · obtain ⟨b, off, rfl⟩ := h.addr (by omega)
      obtain ⟨b', off', rfl⟩ := h2.addr (by omega)
      obtain ⟨hbl, c0⟩ := getI (h.below hb) hlt
      obtain ⟨hbl', d0⟩ := getI (h2.below hb) hlt
      go_wp2
      go_quiet (fail)
      go_wp2
      go_roundw
      case rel => exact ⟨k + 1, by omega, by go_num, bdrew hb _⟩
      case measure => simp [intOf]; omega
    · go_wp2
      go_ret
      exact ⟨rfl, hb⟩
end Go.Proofs.Ytljpmccnppplgaa
