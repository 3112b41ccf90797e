/- SpeedAt of both texts: what it returns. At most 1048576 layers. -/
import Derived.Test.YtfmlfeokdaahmaaW7a
import Derived.Test.YtfmlfeokdaahmaaP7b
set_option linter.unusedVariables false
set_option linter.unusedSimpArgs false
namespace Go.Proofs.Ytfmlfeokdaahmaa
open Go.RowKit
set_option maxHeartbeats 2000000
theorem s7Speed (t : Ct) (A : Option Addr) (c : Nat) (d : Int) (w : World) (h : Sl 2 Ly.enc w A t.lay) (hn : t.lay.length ≤ 1048576) :
    Calls Try.prog 63 #[.agg #[.int .i64 t.id, .int .i64 t.time, .int .i64 t.x, .int .i64 t.y, .slice A t.lay.length c], .int .i64 d] w fun e w' => e = .returned (.int .i64 (spdK t.lay d t.lay.length)) ∧ Below w.heap.size w w' := by
  go_enter Try.func63, Try.ntmps63
  go_wp2_with (fail)
  generalize hW : World.alloc w _ = W1
  obtain ⟨bW, kW, _⟩ := alloc_facts hW
  clear hW
  have h := h.below bW
  have r4 := kW.2.1 4 _ rfl
  clear kW
  go_loop [5, 6] (fun s i => ∃ k : Nat, k ≤ t.lay.length ∧ i = .int .i64 k ∧ s = .int .i64 (spdK t.lay d k)) (fun _ i => t.lay.length - (intOf i).toNat)
  case atStart => exact ⟨0, Nat.zero_le _, rfl, rfl⟩
  case round =>
    obtain ⟨k, hk, rfl, rfl⟩ := hrel
    by_cases hlt : k < t.lay.length
    · obtain ⟨b, off, rfl⟩ := h.addr (by omega)
      obtain ⟨hbl, c0, c1⟩ := Ly.get h hlt
      by_cases hd : t.lay[k].dep ≤ d
      · have HN := Lib.hid (spdK_yes hlt hd)
        go_wp2
        go_round
        case rel => exact ⟨k + 1, by omega, by go_num, vi HN.out.symm⟩
        case measure => simp [intOf]; omega
      · have HN := Lib.hid (spdK_no hlt hd)
        go_wp2
        go_round
        case rel => exact ⟨k + 1, by omega, by go_num, vi HN.out.symm⟩
        case measure => simp [intOf]; omega
    · obtain rfl : k = t.lay.length := by omega
      go_wp2
      go_ret
      exact ⟨rfl, bW⟩
theorem i7Speed (t : Ct) (A : Option Addr) (c : Nat) (d : Int) (w : World) (h : Sl 2 Ly.enc w A t.lay) (hn : t.lay.length ≤ 1048576) :
    Calls Try.prog 65 #[.agg #[.int .i64 t.id, .int .i64 t.time, .int .i64 t.x, .int .i64 t.y, .slice A t.lay.length c], .int .i64 d] w fun e w' => e = .returned (.int .i64 (spdK t.lay d t.lay.length)) ∧ Below w.heap.size w w' := by
  go_enter Try.func65, Try.ntmps65
  go_wp2_with (fail)
  generalize hW : World.alloc w _ = W1
  obtain ⟨bW, kW, _⟩ := alloc_facts hW
  clear hW kW
  go_loopw [5, 11] (fun s i wr => ∃ k : Nat, k ≤ t.lay.length ∧ i = .int .i64 k ∧ s = .int .i64 (spdK t.lay d k) ∧ Below w.heap.size w wr) (fun _ i _ => t.lay.length - (intOf i).toNat)
  case atStart => exact ⟨0, Nat.zero_le _, rfl, rfl, bW⟩
  case round =>
    obtain ⟨k, hk, rfl, rfl, hb⟩ := hrel
    by_cases hlt : k < t.lay.length
    · obtain ⟨b, off, rfl⟩ := h.addr (by omega)
      obtain ⟨hbl, c0, c1⟩ := Ly.get (h.below hb) hlt
      by_cases hd : t.lay[k].dep ≤ d
      · have HN := Lib.hid (spdK_yes hlt hd)
        go_wp2
        go_roundw
        case rel => exact ⟨k + 1, by omega, by go_num, vi HN.out.symm, bth hb (below_alloc _ _)⟩
        case measure => simp [intOf]; omega
      · have HN := Lib.hid (spdK_no hlt hd)
        go_wp2
        go_roundw
        case rel => exact ⟨k + 1, by omega, by go_num, vi HN.out.symm, bth hb (below_alloc _ _)⟩
        case measure => simp [intOf]; omega
    · obtain rfl : k = t.lay.length := by omega
      go_wp2
      go_ret
      exact ⟨rfl, hb⟩
theorem i7Is (t : Ct) (A : Option Addr) (c : Nat) (d : Int) (w : World) (h : Sl 2 Ly.enc w A t.lay) (hn : t.lay.length ≤ 1048576) :
    Calls Try.prog 64 #[.agg #[.int .i64 t.id, .int .i64 t.time, .int .i64 t.x, .int .i64 t.y, .slice A t.lay.length c], .int .i64 d] w fun e w' => e = .returned (.bool (saOk t d)) ∧ Below w.heap.size w w' := by
  go_enter Try.func64, Try.ntmps64
  go_wp2_with (fail)
  refine (i7One t A c _ (h.below (below_alloc _ _)) hn).mono ?_; rintro e w1 ⟨rfl, b1⟩
  have b1 := (below_alloc w _).trans (b1.mono (by simp))
  go_wp2_with (go_at_call 57; refine (implIn _ _ _ _).mono ?_; rintro e w' ⟨rfl, rfl⟩)
  all_goals
    go_ret
    exact ⟨ret_bool (by rw [saOk_def]; simp [*]), b1⟩
theorem iSpeed (t : Ct) (A : Option Addr) (c : Nat) (d : Int) (w : World) (h : Sl 2 Ly.enc w A t.lay) (hn : t.lay.length ≤ 1048576) :
    Calls Try.prog 21 #[.agg #[.int .i64 t.id, .int .i64 t.time, .int .i64 t.x, .int .i64 t.y, .slice A t.lay.length c], .int .i64 d] w fun e w' => e = .returned (.tuple #[.int .i64 (saV t d), .bool (saOk t d)]) ∧ Below w.heap.size w w' := by
  go_enter Try.func21, Try.ntmps21
  go_wp2_with (fail)
  generalize hW : World.alloc w _ = W1
  obtain ⟨bW, kW, _⟩ := alloc_facts hW
  clear hW
  refine (i7Is t A c d _ (h.below bW) hn).mono ?_; rintro e w1 ⟨rfl, b1⟩
  have k1 := kW.below b1
  have b1 := bth bW b1
  cases g : saOk t d with
  | false =>
    have E := Lib.hid (sa_bad g)
    have G := Lib.hid g
    clear g
    go_wp2
    go_ret2
    exact ⟨ret_t2 (vi E.out.symm) (vb G.out.symm), b1⟩
  | true =>
    have E := Lib.hid (sa_good g)
    have G := Lib.hid g
    clear g
    have n0 := k1.2.1 0 _ rfl
    have n1 := k1.2.1 1 _ rfl
    have n2 := k1.2.1 2 _ rfl
    have n3 := k1.2.1 3 _ rfl
    have n4 := k1.2.1 4 _ rfl
    go_wp2_with (fail)
    refine (i7Speed t A c d _ (h.below b1) hn).mono ?_; rintro e w2 ⟨rfl, b2⟩
    go_wp2_with (fail)
    go_ret2
    exact ⟨ret_t2 (vi E.out.symm) (vb G.out.symm), bth b1 b2⟩
theorem sSpeed (t : Ct) (A : Option Addr) (c : Nat) (d : Int) (w : World) (h : Sl 2 Ly.enc w A t.lay) (hn : t.lay.length ≤ 1048576) :
    Calls Try.prog 20 #[.agg #[.int .i64 t.id, .int .i64 t.time, .int .i64 t.x, .int .i64 t.y, .slice A t.lay.length c], .int .i64 d] w fun e w' => e = .returned (.tuple #[.int .i64 (saV t d), .bool (saOk t d)]) ∧ Below w.heap.size w w' := by
  go_enter Try.func20, Try.ntmps20
  go_wp2_with (fail)
  generalize hW : World.alloc w _ = W1
  obtain ⟨bW, kW, _⟩ := alloc_facts hW
  clear hW
  refine (s7One t A c _ (h.below bW) hn).mono ?_; rintro e w1 ⟨rfl, b1⟩
  have k1 := kW.below b1
  have b1 := bth bW b1
  have n0 := k1.2.1 0 _ rfl
  have n1 := k1.2.1 1 _ rfl
  have n2 := k1.2.1 2 _ rfl
  have n3 := k1.2.1 3 _ rfl
  have n4 := k1.2.1 4 _ rfl
  have D := saOk_def t d
  cases g : ctOk t with
  | false =>
    rw [g, Bool.false_and] at D
    have E := Lib.hid (sa_bad D)
    have G := Lib.hid D
    clear D g
    go_wp2
    go_ret2
    exact ⟨ret_t2 (vi E.out.symm) (vb G.out.symm), b1⟩
  | true =>
    rw [g, Bool.true_and] at D
    clear g
    cases g2 : inB d 0 20000 with
    | false =>
      rw [g2] at D
      have E := Lib.hid (sa_bad D)
      have G := Lib.hid D
      have G2 := Lib.hid g2
      clear D g2
      go_wp2_with (go_at_call 62; refine (specDp _ _).mono ?_; rintro e w' ⟨rfl, rfl⟩; rw [G2.out])
      go_ret2
      exact ⟨ret_t2 (vi E.out.symm) (vb G.out.symm), b1⟩
    | true =>
      rw [g2] at D
      have E := Lib.hid (sa_good D)
      have G := Lib.hid D
      have G2 := Lib.hid g2
      clear D g2
      go_wp2_with (go_at_call 62; refine (specDp _ _).mono ?_; rintro e w' ⟨rfl, rfl⟩; rw [G2.out])
      refine (s7Speed t A c d _ (h.below b1) hn).mono ?_; rintro e w2 ⟨rfl, b2⟩
      go_wp2_with (fail)
      go_ret2
      exact ⟨ret_t2 (vi E.out.symm) (vb G.out.symm), bth b1 b2⟩
end Go.Proofs.Ytfmlfeokdaahmaa
