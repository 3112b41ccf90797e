import Derived.Test.YtjilcgdmfkjfmaaC10a
namespace Go.Proofs.Ytjilcgdmfkjfmaa
open Go.RowKit
set_option maxHeartbeats 400000

theorem toOne (x : Cr) (w : World) :
    Calls Try.prog 13 #[.agg #[.int .i64 x.line, .int .i64 x.cross, .int .i64 x.main, .int .i64 x.check]] w fun e w' => e = .returned (.agg #[.int .i64 x.line, .int .i64 x.cross, .int .i64 x.main, .int .i64 x.check]) ∧ Below w.heap.size w w' := by
  go_enter Try.func13, Try.ntmps13
  go_wp2
  go_returns
  exact ⟨rfl, by go_grown⟩

theorem infoCr : (Try.prog.info? 32).map (fun i => (i.zero, i.size, i.bytes)) = some (some (.agg #[.int .i64 0, .int .i64 0, .int .i64 0, .int .i64 0]), 4, 32) := by kernel_rfl

theorem toAll (A : Option Addr) (c : Nat) (l : List Cr) (w : World) (h : Sl 4 Cr.enc w A l) (hn : l.length ≤ 1048576) :
    Calls Try.prog 7 #[.slice A l.length c] w fun e w' => ∃ g, e = .returned (.slice (some ⟨g, 0, none⟩) l.length l.length) ∧ Mk 4 Cr.enc w w' g l := by
  have hmk := fun W => run_make_rows (P := Try.prog) 25 32 _ 4 32 Try.underlying25 infoCr l.length (by omega) (by omega) W
  go_enter Try.func7, Try.ntmps7
  go_wp2
  generalize hW : World.alloc w _ = W1
  obtain ⟨hbW, hA, _⟩ := made_facts hW
  clear hW
  go_loopw [4] (fun i wr => ∃ k : Nat, k ≤ l.length ∧ i = .int .i64 k ∧ Below w.heap.size w wr ∧ Sl 4 Cr.enc wr (some ⟨w.heap.size, 0, none⟩) (l.take k) ∧ Ar wr w.heap.size (l.length * 4)) (fun i _ => l.length - (intOf i).toNat)
  case atStart => exact ⟨0, Nat.zero_le _, rfl, hbW, Sl.nil, hA⟩
  case round =>
    obtain ⟨k, hk, rfl, hb, hs, hA⟩ := hrel
    by_cases hlt : k < l.length
    · obtain ⟨b, off, rfl⟩ := h.addr (by omega)
      obtain ⟨hbl, c0, c1, c2, c3⟩ := Cr.get (h.below hb) hlt
      go_wp2_with (fail)
      refine (toOne l[k] _).mono ?_
      rintro e w' ⟨rfl, hb'⟩
      have hA' := hA.below hb'
      have hs' := hs.below hb'
      obtain ⟨v0, g0⟩ := hA'.2.1 (k * 4) (by omega)
      obtain ⟨v1, g1⟩ := hA'.2.1 (k * 4 + 1) (by omega)
      obtain ⟨v2, g2⟩ := hA'.2.1 (k * 4 + 2) (by omega)
      obtain ⟨v3, g3⟩ := hA'.2.1 (k * 4 + 3) (by omega)
      have f0 := hA'.2.2 (k * 4)
      have f1 := hA'.2.2 (k * 4 + 1)
      have f2 := hA'.2.2 (k * 4 + 2)
      have f3 := hA'.2.2 (k * 4 + 3)
      go_wp2_with (fail)
      go_roundw
      case rel => exact ⟨k + 1, by omega, by go_num, bset (bth hb hb') (Nat.le_refl _) (Cr.enc l[k]) (k * 4), hs'.put hA' hlt (fun _ => rfl), hA'.put (Cr.enc l[k]) (k * 4) (by show k * 4 + 4 ≤ _; omega)⟩
      case measure => simp [intOf]; omega
    · obtain rfl : k = l.length := by omega
      go_wp2
      go_ret
      exact ⟨_, rfl, Nat.le_refl _, hb, by rwa [List.take_length] at hs, hA⟩
end Go.Proofs.Ytjilcgdmfkjfmaa
