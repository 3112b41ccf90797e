/- The law over SameLayers as the program runs it: it returns true and changes nothing that was there. -/
import Derived.Test.YtfmlfeokdaahmaaW7n
set_option linter.unusedVariables false
set_option linter.unusedSimpArgs false
namespace Go.Proofs.Ytfmlfeokdaahmaa
open Go.RowKit
set_option maxHeartbeats 8000000
set_option maxRecDepth 100000
theorem lawSame (t : Ct) (A : Option Addr) (c : Nat) (u : Ct) (B : Option Addr) (d : Nat) (wi : Int) (w : World) (h : Sl 2 Ly.enc w A t.lay) (hm : t.lay.length ≤ 9223372036854775807) (_hc : t.lay.length ≤ c) (h2 : Sl 2 Ly.enc w B u.lay) (hm2 : u.lay.length ≤ 9223372036854775807) (_hd : u.lay.length ≤ d) :
    Calls Try.prog 5 #[.agg #[.int .i64 t.id, .int .i64 t.time, .int .i64 t.x, .int .i64 t.y, .slice A t.lay.length c], .agg #[.int .i64 u.id, .int .i64 u.time, .int .i64 u.x, .int .i64 u.y, .slice B u.lay.length d], .int .i64 wi] w fun e w' => e = .returned (.bool true) ∧ Below w.heap.size w w' := by
  go_enter Try.func5, Try.ntmps5
  go_wp2_with (fail)
  generalize hW : World.alloc w _ = W1
  obtain ⟨bW, kW, _⟩ := alloc_facts hW
  have eW : W1.heap.size = w.heap.size + 1 := by rw [← hW]; simp
  clear hW
  generalize hW2 : World.alloc W1 _ = W2
  obtain ⟨bW2, kW2, _⟩ := alloc_facts hW2
  clear hW2
  rw [eW] at kW2
  clear eW
  have kW := kW.below bW2
  have bW := bth bW bW2
  have h := h.below bW
  have h2 := h2.below bW
  by_cases hn : t.lay.length ≤ 1048576
  · have h1 : ¬ (1048576 - (t.lay.length : Int) < 0) := by omega
    refine (szCtYes t A c 1048576 _ (by omega) (by omega)).mono ?_; rintro e w0 ⟨rfl, b0⟩
    have k0 := kW2.below b0
    have m0 := k0.2.1 0 _ rfl
    have m1 := k0.2.1 1 _ rfl
    have m2 := k0.2.1 2 _ rfl
    have m3 := k0.2.1 3 _ rfl
    have m4 := k0.2.1 4 _ rfl
    go_wp2_with (fail)
    by_cases hn2 : (u.lay.length : Int) ≤ 1048576 - t.lay.length
    · have h12 : ¬ (1048576 - (t.lay.length : Int) - (u.lay.length : Int) < 0) := by omega
      refine (szCtYes u B d (1048576 - t.lay.length) _ (by omega) hn2).mono ?_; rintro e w1 ⟨rfl, b1⟩
      have b1 := bth b0 b1
      have kA := kW.below b1
      have kB := kW2.below b1
      have h := h.below b1
      have h2 := h2.below b1
      have KT := Lib.hid (show ∀ w', Below w1.heap.size w1 w' → Below w1.heap.size w1 w' ∧ w'.cell? ⟨w.heap.size, 0, none⟩ = some (.int .i64 t.id) ∧ w'.cell? ⟨w.heap.size, 1, none⟩ = some (.int .i64 t.time) ∧ w'.cell? ⟨w.heap.size, 2, none⟩ = some (.int .i64 t.x) ∧ w'.cell? ⟨w.heap.size, 3, none⟩ = some (.int .i64 t.y) ∧ w'.cell? ⟨w.heap.size, 4, none⟩ = some (.slice A t.lay.length c) ∧ w'.cell? ⟨w.heap.size + 1, 0, none⟩ = some (.int .i64 u.id) ∧ w'.cell? ⟨w.heap.size + 1, 1, none⟩ = some (.int .i64 u.time) ∧ w'.cell? ⟨w.heap.size + 1, 2, none⟩ = some (.int .i64 u.x) ∧ w'.cell? ⟨w.heap.size + 1, 3, none⟩ = some (.int .i64 u.y) ∧ w'.cell? ⟨w.heap.size + 1, 4, none⟩ = some (.slice B u.lay.length d) from fun w' hw => ⟨hw, (kA.below hw).2.1 0 _ rfl, (kA.below hw).2.1 1 _ rfl, (kA.below hw).2.1 2 _ rfl, (kA.below hw).2.1 3 _ rfl, (kA.below hw).2.1 4 _ rfl, (kB.below hw).2.1 0 _ rfl, (kB.below hw).2.1 1 _ rfl, (kB.below hw).2.1 2 _ rfl, (kB.below hw).2.1 3 _ rfl, (kB.below hw).2.1 4 _ rfl⟩)
      clear m0 m1 m2 m3 m4 k0
      go_wp2_with (fail)
      go_region_held3 (fun w' => Below w1.heap.size w1 w' ∧ w'.cell? ⟨w.heap.size, 0, none⟩ = some (.int .i64 t.id) ∧ w'.cell? ⟨w.heap.size, 1, none⟩ = some (.int .i64 t.time) ∧ w'.cell? ⟨w.heap.size, 2, none⟩ = some (.int .i64 t.x) ∧ w'.cell? ⟨w.heap.size, 3, none⟩ = some (.int .i64 t.y) ∧ w'.cell? ⟨w.heap.size, 4, none⟩ = some (.slice A t.lay.length c) ∧ w'.cell? ⟨w.heap.size + 1, 0, none⟩ = some (.int .i64 u.id) ∧ w'.cell? ⟨w.heap.size + 1, 1, none⟩ = some (.int .i64 u.time) ∧ w'.cell? ⟨w.heap.size + 1, 2, none⟩ = some (.int .i64 u.x) ∧ w'.cell? ⟨w.heap.size + 1, 3, none⟩ = some (.int .i64 u.y) ∧ w'.cell? ⟨w.heap.size + 1, 4, none⟩ = some (.slice B u.lay.length d))
        (first | exact KT.out _ b5 | exact KT.out _ b4 | exact KT.out _ b3 | exact KT.out _ (Below.refl _ _).drew)
        (first
          | (go_at_call 17; have m3' := m3; refine (toCt u B d _ (h2.below b3) (by omega)).mono ?_; rintro e w4 ⟨g4, rfl, m4⟩; have b4 : Below w1.heap.size w1 w4 := bth b3 m4.2.1)
          | (go_at_call 17; refine (toCt t A c _ (h.below (Below.refl _ _).drew) hn).mono ?_; rintro e w3 ⟨g3, rfl, m3⟩; have b3 : Below w1.heap.size w1 w3 := bth (Below.refl _ _).drew m3.2.1)
          | (go_at_call 22; refine (sSame t u _ _ _ _ wi _ (m3.2.2.1.below m4.2.1) hn m4.2.2.1 (by omega)).mono ?_; rintro e w5 ⟨rfl, b5'⟩; have b5 : Below w1.heap.size w1 w5 := bth b4 b5'))
      have kA5 := kA.below b5
      have kB5 := kB.below b5
      have h5 := h.below b5
      have h25 := h2.below b5
      rename_i hHeld
      clear hHeld
      have a0 := kA5.2.1 0 _ rfl
      have a1 := kA5.2.1 1 _ rfl
      have a2 := kA5.2.1 2 _ rfl
      have a3 := kA5.2.1 3 _ rfl
      have a4 := kA5.2.1 4 _ rfl
      go_wp2_with (fail)
      refine (toCt t A c _ h5 hn).mono ?_; rintro e w6 ⟨g6, rfl, m6⟩
      clear a0 a1 a2 a3 a4
      have kB6 := kB5.below m6.2.1
      have a0 := kB6.2.1 0 _ rfl
      have a1 := kB6.2.1 1 _ rfl
      have a2 := kB6.2.1 2 _ rfl
      have a3 := kB6.2.1 3 _ rfl
      have a4 := kB6.2.1 4 _ rfl
      have z6 := kB6.1
      go_wp2_with (fail)
      generalize hW6 : World.alloc w6 _ = W6
      obtain ⟨bW6, kX, _⟩ := alloc_facts hW6
      clear hW6 a0 a1 a2 a3 a4 z6
      have b6 := bth m6.2.1 bW6
      refine (toCt u B d _ (h25.below b6) (by omega)).mono ?_; rintro e w7 ⟨g7, rfl, m7⟩
      have kX7 := kX.below m7.2.1
      have a0 := kX7.2.1 0 _ rfl
      have a1 := kX7.2.1 1 _ rfl
      have a2 := kX7.2.1 2 _ rfl
      have a3 := kX7.2.1 3 _ rfl
      have a4 := kX7.2.1 4 _ rfl
      have z7 := kX7.1
      go_wp2_with (fail)
      generalize hW7 : World.alloc w7 _ = W7
      obtain ⟨bW7, kY, _⟩ := alloc_facts hW7
      clear hW7 a0 a1 a2 a3 a4 z7
      have b7 := bth b6 (bth m7.2.1 bW7)
      have s6 := m6.2.2.1.below (bth bW6 (bth m7.2.1 bW7))
      have s7 := m7.2.2.1.below bW7
      refine (iSame t u _ _ _ _ wi _ s6 hn s7 (by omega)).mono ?_; rintro e w8 ⟨rfl, b8⟩
      have s8 := s6.below b8
      have s9 := s7.below b8
      have kX8 := kX7.below (bth bW7 b8)
      have kY8 := kY.below b8
      have b8' := bth b7 b8
      have kA8 := kA5.below b8'
      have kB8 := kB5.below b8'
      have h8 := h5.below b8'
      have h28 := h25.below b8'
      have KT8 := Lib.hid (show ∀ w', Below w8.heap.size w8 w' → Below w8.heap.size w8 w' ∧ w'.cell? ⟨w.heap.size, 0, none⟩ = some (.int .i64 t.id) ∧ w'.cell? ⟨w.heap.size, 1, none⟩ = some (.int .i64 t.time) ∧ w'.cell? ⟨w.heap.size, 2, none⟩ = some (.int .i64 t.x) ∧ w'.cell? ⟨w.heap.size, 3, none⟩ = some (.int .i64 t.y) ∧ w'.cell? ⟨w.heap.size, 4, none⟩ = some (.slice A t.lay.length c) ∧ w'.cell? ⟨w6.heap.size, 0, none⟩ = some (.int .i64 t.id) ∧ w'.cell? ⟨w6.heap.size, 1, none⟩ = some (.int .i64 t.time) ∧ w'.cell? ⟨w6.heap.size, 2, none⟩ = some (.int .i64 t.x) ∧ w'.cell? ⟨w6.heap.size, 3, none⟩ = some (.int .i64 t.y) ∧ w'.cell? ⟨w6.heap.size, 4, none⟩ = some (.slice (some ⟨g6, 0, none⟩) t.lay.length t.lay.length) from fun w' hw => ⟨hw, (kA8.below hw).2.1 0 _ rfl, (kA8.below hw).2.1 1 _ rfl, (kA8.below hw).2.1 2 _ rfl, (kA8.below hw).2.1 3 _ rfl, (kA8.below hw).2.1 4 _ rfl, (kX8.below hw).2.1 0 _ rfl, (kX8.below hw).2.1 1 _ rfl, (kX8.below hw).2.1 2 _ rfl, (kX8.below hw).2.1 3 _ rfl, (kX8.below hw).2.1 4 _ rfl⟩)
      go_wp2_with (fail)
      go_region_held3 (fun w' => Below w8.heap.size w8 w' ∧ w'.cell? ⟨w.heap.size, 0, none⟩ = some (.int .i64 t.id) ∧ w'.cell? ⟨w.heap.size, 1, none⟩ = some (.int .i64 t.time) ∧ w'.cell? ⟨w.heap.size, 2, none⟩ = some (.int .i64 t.x) ∧ w'.cell? ⟨w.heap.size, 3, none⟩ = some (.int .i64 t.y) ∧ w'.cell? ⟨w.heap.size, 4, none⟩ = some (.slice A t.lay.length c) ∧ w'.cell? ⟨w6.heap.size, 0, none⟩ = some (.int .i64 t.id) ∧ w'.cell? ⟨w6.heap.size, 1, none⟩ = some (.int .i64 t.time) ∧ w'.cell? ⟨w6.heap.size, 2, none⟩ = some (.int .i64 t.x) ∧ w'.cell? ⟨w6.heap.size, 3, none⟩ = some (.int .i64 t.y) ∧ w'.cell? ⟨w6.heap.size, 4, none⟩ = some (.slice (some ⟨g6, 0, none⟩) t.lay.length t.lay.length))
        (first | exact KT8.out _ b10 | exact KT8.out _ b9 | exact KT8.out _ (Below.refl _ _).drew)
        (first
          | (go_at_call 17; refine (toCt t A c _ (h8.below (Below.refl _ _).drew) hn).mono ?_; rintro e w9 ⟨g9, rfl, m9⟩; have b9 : Below w8.heap.size w8 w9 := bth (Below.refl _ _).drew m9.2.1)
          | (go_at_call 19; refine (eqCt t _ _ _ _ _ (s8.below b9) m9.2.2.1 hn).mono ?_; rintro e w10 ⟨rfl, b10'⟩; have b10 : Below w8.heap.size w8 w10 := bth b9 b10'))
      rename_i hHeld
      clear hHeld
      have kB10 := kB8.below b10
      have kY10 := kY8.below b10
      have s10 := s9.below b10
      have h10 := h28.below b10
      have KT10 := Lib.hid (show ∀ w', Below w10.heap.size w10 w' → Below w10.heap.size w10 w' ∧ w'.cell? ⟨w.heap.size + 1, 0, none⟩ = some (.int .i64 u.id) ∧ w'.cell? ⟨w.heap.size + 1, 1, none⟩ = some (.int .i64 u.time) ∧ w'.cell? ⟨w.heap.size + 1, 2, none⟩ = some (.int .i64 u.x) ∧ w'.cell? ⟨w.heap.size + 1, 3, none⟩ = some (.int .i64 u.y) ∧ w'.cell? ⟨w.heap.size + 1, 4, none⟩ = some (.slice B u.lay.length d) ∧ w'.cell? ⟨w7.heap.size, 0, none⟩ = some (.int .i64 u.id) ∧ w'.cell? ⟨w7.heap.size, 1, none⟩ = some (.int .i64 u.time) ∧ w'.cell? ⟨w7.heap.size, 2, none⟩ = some (.int .i64 u.x) ∧ w'.cell? ⟨w7.heap.size, 3, none⟩ = some (.int .i64 u.y) ∧ w'.cell? ⟨w7.heap.size, 4, none⟩ = some (.slice (some ⟨g7, 0, none⟩) u.lay.length u.lay.length) from fun w' hw => ⟨hw, (kB10.below hw).2.1 0 _ rfl, (kB10.below hw).2.1 1 _ rfl, (kB10.below hw).2.1 2 _ rfl, (kB10.below hw).2.1 3 _ rfl, (kB10.below hw).2.1 4 _ rfl, (kY10.below hw).2.1 0 _ rfl, (kY10.below hw).2.1 1 _ rfl, (kY10.below hw).2.1 2 _ rfl, (kY10.below hw).2.1 3 _ rfl, (kY10.below hw).2.1 4 _ rfl⟩)
      go_wp2_with (fail)
      go_region_held3 (fun w' => Below w10.heap.size w10 w' ∧ w'.cell? ⟨w.heap.size + 1, 0, none⟩ = some (.int .i64 u.id) ∧ w'.cell? ⟨w.heap.size + 1, 1, none⟩ = some (.int .i64 u.time) ∧ w'.cell? ⟨w.heap.size + 1, 2, none⟩ = some (.int .i64 u.x) ∧ w'.cell? ⟨w.heap.size + 1, 3, none⟩ = some (.int .i64 u.y) ∧ w'.cell? ⟨w.heap.size + 1, 4, none⟩ = some (.slice B u.lay.length d) ∧ w'.cell? ⟨w7.heap.size, 0, none⟩ = some (.int .i64 u.id) ∧ w'.cell? ⟨w7.heap.size, 1, none⟩ = some (.int .i64 u.time) ∧ w'.cell? ⟨w7.heap.size, 2, none⟩ = some (.int .i64 u.x) ∧ w'.cell? ⟨w7.heap.size, 3, none⟩ = some (.int .i64 u.y) ∧ w'.cell? ⟨w7.heap.size, 4, none⟩ = some (.slice (some ⟨g7, 0, none⟩) u.lay.length u.lay.length))
        (first | exact KT10.out _ b12 | exact KT10.out _ b11 | exact KT10.out _ (Below.refl _ _).drew)
        (first
          | (go_at_call 17; refine (toCt u B d _ (h10.below (Below.refl _ _).drew) (by omega)).mono ?_; rintro e w11 ⟨g11, rfl, m11⟩; have b11 : Below w10.heap.size w10 w11 := bth (Below.refl _ _).drew m11.2.1)
          | (go_at_call 19; refine (eqCt u _ _ _ _ _ (s10.below b11) m11.2.2.1 (by omega)).mono ?_; rintro e w12 ⟨rfl, b12'⟩; have b12 : Below w10.heap.size w10 w12 := bth b11 b12'))
      go_wp2_with (fail)
      go_ret
      exact ⟨rfl, bth bW (bth b1 (bth b5 (bth b8' (bth b10 b12))))⟩
    · refine (szCtNo u B d (1048576 - t.lay.length) _ (by omega) hm2 (by omega)).mono ?_; rintro e w1 ⟨rfl, b1⟩
      go_wp2_with (fail)
      go_ret
      exact ⟨rfl, bth bW (bth b0 b1)⟩
  · refine (szCtNo t A c 1048576 _ (by omega) hm (by omega)).mono ?_; rintro e w0 ⟨rfl, b0⟩
    go_wp2_with (fail)
    go_ret
    exact ⟨rfl, bth bW b0⟩
end Go.Proofs.Ytfmlfeokdaahmaa
