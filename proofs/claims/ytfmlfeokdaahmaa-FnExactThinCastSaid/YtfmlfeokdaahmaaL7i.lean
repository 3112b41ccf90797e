/- The law over ThinCast as the program runs it: it returns true and changes nothing that was there. -/
import Derived.Test.YtfmlfeokdaahmaaW7m
import Derived.Test.YtfmlfeokdaahmaaS7c
set_option linter.unusedVariables false
set_option linter.unusedSimpArgs false
namespace Go.Proofs.Ytfmlfeokdaahmaa
open Go.RowKit
set_option maxHeartbeats 4000000
set_option maxRecDepth 100000
theorem lawThin (t : Ct) (A : Option Addr) (c : Nat) (w : World) (h : Sl 2 Ly.enc w A t.lay) (hm : t.lay.length ≤ 9223372036854775807) (_hc : t.lay.length ≤ c) :
    Calls Try.prog 7 #[.agg #[.int .i64 t.id, .int .i64 t.time, .int .i64 t.x, .int .i64 t.y, .slice A t.lay.length c]] w fun e w' => e = .returned (.bool true) ∧ Below w.heap.size w w' := by
  by_cases hn : t.lay.length ≤ 1048576
  · have h1 : ¬ (1048576 - (t.lay.length : Int) < 0) := by omega
    have hX := thin_len t
    have hk1 : ¬ (1 + (t.lay.length : Int) * 2 < 0) := by omega
    have hk2 : ¬ (1 + ((thinC t).lay.length : Int) * 2 < 0) := by omega
    go_enter Try.func7, Try.ntmps7
    go_wp2_with (fail)
    generalize hW : World.alloc w _ = W1
    obtain ⟨bW1, kW1, zW1⟩ := alloc_facts hW
    clear hW
    have h := h.below bW1
    refine (szCtYes t A c 1048576 _ (by omega) (by omega)).mono ?_; rintro e w0 ⟨rfl, b0⟩
    have k0 := kW1.below b0
    have na1 := k0.2.1 0 _ rfl
    have na2 := k0.2.1 1 _ rfl
    have na3 := k0.2.1 2 _ rfl
    have na4 := k0.2.1 3 _ rfl
    have na5 := k0.2.1 4 _ rfl
    go_wp2_with (fail)
    refine (toCt t A c _ (h.below b0) hn).mono ?_; rintro e w1 ⟨g1, rfl, m1⟩
    have b1 := bth b0 m1.2.1
    go_wp2_with (fail)
    refine (sThin t _ _ _ m1.2.2.1 hn).mono ?_; rintro e w2 ⟨A0, c0, rfl, f0⟩
    have b2 := bth b1 f0.1
    clear na1 na2 na3 na4 na5 k0
    have k2 := kW1.below b2
    have nb1 := k2.2.1 0 _ rfl
    have nb2 := k2.2.1 1 _ rfl
    have nb3 := k2.2.1 2 _ rfl
    have nb4 := k2.2.1 3 _ rfl
    have nb5 := k2.2.1 4 _ rfl
    have z2 := k2.1
    go_wp2_with (fail)
    generalize hW2 : World.alloc w2 _ = W2
    obtain ⟨bW2, kW2, zW2⟩ := alloc_facts hW2
    clear hW2
    have b2' := bth b2 bW2
    clear nb1 nb2 nb3 nb4 nb5 z2 k2
    refine (toCt t A c _ (h.below b2') hn).mono ?_; rintro e w3 ⟨g3, rfl, m3⟩
    have b3 := bth b2' m3.2.1
    have hg3 := m3.1
    go_wp2_with (fail)
    generalize hW3 : World.alloc w3 _ = W3
    obtain ⟨bW3, kW3, zW3⟩ := alloc_facts hW3
    clear hW3
    have s3 := m3.2.2.1.below bW3
    have r3 := m3.2.2.2.below bW3
    have hg3' := m3.2.2.2.1
    have b3' := bth b3 bW3
    refine (iThin t _ _ _ s3 hn).mono ?_; rintro e w4 ⟨A1, c1, rfl, f1⟩
    have b4 := bth b3' f1.1
    have x4 := bth (bth m3.2.1 bW3) f1.1
    have e2 := kW2.below x4
    have na1 := e2.2.1 0 _ rfl
    have na2 := e2.2.1 1 _ rfl
    have na3 := e2.2.1 2 _ rfl
    have na4 := e2.2.1 3 _ rfl
    have na5 := e2.2.1 4 _ rfl
    have z4 := e2.1
    go_wp2_with (fail)
    generalize hW4 : World.alloc w4 _ = W4
    obtain ⟨bW4, kW4, zW4⟩ := alloc_facts hW4
    clear hW4
    have e0 := f0.2.1.below (bth (bth bW2 x4) bW4)
    have e1 := f1.2.1.below bW4
    refine (eqCt (thinC t) A1 A0 c1 c0 _ e1 e0 hX).mono ?_; rintro e w5 ⟨rfl, b5⟩
    have b5' := bth (bth b4 bW4) b5
    have e0 := e0.below b5
    have e1 := e1.below b5
    have kA := kW1.below b5'
    have kB := kW3.below (bth (bth f1.1 bW4) b5)
    have k0 := kW2.below (bth (bth x4 bW4) b5)
    have k1 := kW4.below b5
    have r5 := r3.below (bth (bth f1.1 bW4) b5)
    have s5 := s3.below (bth (bth f1.1 bW4) b5)
    have q5 := f1.2.2.1.below (bth bW4 b5)
    clear na1 na2 na3 na4 na5 e2 z4 s3 r3
    have KT : ∀ w', Below w5.heap.size w5 w' → Below w5.heap.size w5 w' ∧ w'.cell? ⟨w.heap.size, 0, none⟩ = some (.int .i64 t.id) ∧ w'.cell? ⟨w.heap.size, 1, none⟩ = some (.int .i64 t.time) ∧ w'.cell? ⟨w.heap.size, 2, none⟩ = some (.int .i64 t.x) ∧ w'.cell? ⟨w.heap.size, 3, none⟩ = some (.int .i64 t.y) ∧ w'.cell? ⟨w.heap.size, 4, none⟩ = some (.slice A t.lay.length c) ∧
        w'.cell? ⟨w3.heap.size, 0, none⟩ = some (.int .i64 t.id) ∧ w'.cell? ⟨w3.heap.size, 1, none⟩ = some (.int .i64 t.time) ∧ w'.cell? ⟨w3.heap.size, 2, none⟩ = some (.int .i64 t.x) ∧ w'.cell? ⟨w3.heap.size, 3, none⟩ = some (.int .i64 t.y) ∧ w'.cell? ⟨w3.heap.size, 4, none⟩ = some (.slice (some ⟨g3, 0, none⟩) t.lay.length t.lay.length) := fun w' hw =>
      ⟨hw, (kA.below hw).2.1 0 _ rfl, (kA.below hw).2.1 1 _ rfl, (kA.below hw).2.1 2 _ rfl, (kA.below hw).2.1 3 _ rfl, (kA.below hw).2.1 4 _ rfl, (kB.below hw).2.1 0 _ rfl, (kB.below hw).2.1 1 _ rfl, (kB.below hw).2.1 2 _ rfl, (kB.below hw).2.1 3 _ rfl, (kB.below hw).2.1 4 _ rfl⟩
    have KT := Lib.hid KT
    go_wp2_with (fail)
    go_region_held3 (fun w' => Below w5.heap.size w5 w' ∧ w'.cell? ⟨w.heap.size, 0, none⟩ = some (.int .i64 t.id) ∧ w'.cell? ⟨w.heap.size, 1, none⟩ = some (.int .i64 t.time) ∧ w'.cell? ⟨w.heap.size, 2, none⟩ = some (.int .i64 t.x) ∧ w'.cell? ⟨w.heap.size, 3, none⟩ = some (.int .i64 t.y) ∧ w'.cell? ⟨w.heap.size, 4, none⟩ = some (.slice A t.lay.length c) ∧
        w'.cell? ⟨w3.heap.size, 0, none⟩ = some (.int .i64 t.id) ∧ w'.cell? ⟨w3.heap.size, 1, none⟩ = some (.int .i64 t.time) ∧ w'.cell? ⟨w3.heap.size, 2, none⟩ = some (.int .i64 t.x) ∧ w'.cell? ⟨w3.heap.size, 3, none⟩ = some (.int .i64 t.y) ∧ w'.cell? ⟨w3.heap.size, 4, none⟩ = some (.slice (some ⟨g3, 0, none⟩) t.lay.length t.lay.length))
      (first | exact KT.out _ (Below.refl _ _).drew | (refine KT.out _ (bth (b := ?_) ?_ ?_); rotate_left 2; assumption; first | exact (Below.refl _ _).drew | exact And.left (by assumption)))
      (first
        | (go_at_call 17; refine (toCt t A c _ (h.below (bth b5' (by first | exact (Below.refl _ _).drew | exact And.left (by assumption)))) hn).mono ?_; rintro e w6 ⟨g6, rfl, m6⟩; have b6 := m6.2.1)
        | (go_at_call 19; refine (eqCt t _ _ _ _ _ (s5.below (And.left (by assumption))) m6.2.2.1 hn).mono ?_; rintro e w7 ⟨rfl, b7⟩))
    all_goals
      have b7' : Below w5.heap.size w5 w7 := And.left (by assumption)
      have b7 := bth b5' b7'
      have kB7 := kB.below b7'
      have na1 := kB7.2.1 0 _ rfl
      have na2 := kB7.2.1 1 _ rfl
      have na3 := kB7.2.1 2 _ rfl
      have na4 := kB7.2.1 3 _ rfl
      have na5 := kB7.2.1 4 _ rfl
      go_wp2_with (fail)
      refine (markCt t _ _ _ (fun _ => ⟨g3, rfl, r5.below b7'⟩) hn).mono ?_; rintro e w8 ⟨rfl, o8, _, _⟩
      clear na1 na2 na3 na4 na5 kB7
      have u2 := bW2.size
      have u3 := bW3.size
      have u4 := bW4.size
      have u1 := b2.size
      have u5 := f1.1.size
      have l0 : ∀ a, A0 = some a → 0 < (thinC t).lay.length → a.block < w2.heap.size := fun a ha hl => f0.2.1.lt hl a ha
      have l1 : ∀ a, A1 = some a → 0 < (thinC t).lay.length → W3.heap.size ≤ a.block ∧ a.block < w4.heap.size := fun a ha hl => ⟨f1.2.2.2 a ha hl, f1.2.1.lt hl a ha⟩
      have s08 := (e0.below b7').onlyG o8 (fun _ hl a a' ha ha' => by injection ha with ha; subst ha; have := l0 a' ha' hl; show g3 ≠ _; omega)
      have s18 := (e1.below b7').onlyG o8 (fun _ hl a a' ha ha' => by injection ha with ha; subst ha; have := l1 a' ha' hl; show g3 ≠ _; omega)
      have q8 := (q5.below b7').onlyG o8 (fun hl _ a a' ha ha' => by injection ha with ha; subst ha; have := l1 a' ha' hl; show g3 ≠ _; omega)
      have k08 := (k0.below b7').onlyG o8 (fun _ a ha => by injection ha with ha; subst ha; show g3 ≠ _; omega)
      have k18 := (k1.below b7').onlyG o8 (fun _ a ha => by injection ha with ha; subst ha; show g3 ≠ _; omega)
      have kA8 := (kA.below b7').onlyG o8 (fun _ a ha => by injection ha with ha; subst ha; show g3 ≠ _; omega)
      have b8 := o8.below b7 (by have := b7.size; omega) (fun _ a ha => by injection ha with ha; subst ha; show _ ≤ g3; omega)
      have na1 := k18.2.1 0 _ rfl
      have na2 := k18.2.1 1 _ rfl
      have na3 := k18.2.1 2 _ rfl
      have na4 := k18.2.1 3 _ rfl
      have na5 := k18.2.1 4 _ rfl
      have nb1 := k08.2.1 0 _ rfl
      have nb2 := k08.2.1 1 _ rfl
      have nb3 := k08.2.1 2 _ rfl
      have nb4 := k08.2.1 3 _ rfl
      have nb5 := k08.2.1 4 _ rfl
      go_wp2_with (fail)
      refine (eqCt (thinC t) A1 A0 c1 c0 _ s18 s08 hX).mono ?_; rintro e w9 ⟨rfl, b9⟩
      have s09 := s08.below b9
      have q9 := q8.below b9
      have k09 := k08.below b9
      have k19 := k18.below b9
      have kA9 := kA8.below b9
      have b9' := bth b8 b9
      clear na1 na2 na3 na4 na5 nb1 nb2 nb3 nb4 nb5
      have na1 := k19.2.1 0 _ rfl
      have na2 := k19.2.1 1 _ rfl
      have na3 := k19.2.1 2 _ rfl
      have na4 := k19.2.1 3 _ rfl
      have na5 := k19.2.1 4 _ rfl
      go_wp2_with (fail)
      refine (markCt (thinC t) A1 c1 _ q9 hX).mono ?_; rintro e w10 ⟨rfl, o10, s110, _⟩
      have s010 := s09.onlyG o10 (fun hl hl' a a' ha ha' => by have := l0 a' ha' hl'; have := l1 a ha hl; omega)
      have k010 := k09.onlyG o10 (fun hl a ha => by have := l1 a ha hl; omega)
      have k110 := k19.onlyG o10 (fun hl a ha => by have := l1 a ha hl; omega)
      have kA10 := kA9.onlyG o10 (fun hl a ha => by have := l1 a ha hl; omega)
      have b10 := o10.below b9' (by have := b9'.size; omega) (fun hl a ha => by have := l1 a ha hl; omega)
      clear na1 na2 na3 na4 na5
      have na1 := k110.2.1 0 _ rfl
      have na2 := k110.2.1 1 _ rfl
      have na3 := k110.2.1 2 _ rfl
      have na4 := k110.2.1 3 _ rfl
      have na5 := k110.2.1 4 _ rfl
      go_wp2_with (fail)
      refine (heldCt (thinC t) A1 c1 _ s110 hX).mono ?_; rintro e w11 ⟨rfl, b11⟩
      have b11' := bth b10 b11
      have kA11 := kA10.below b11
      clear na1 na2 na3 na4 na5
      have na1 := kA11.2.1 0 _ rfl
      have na2 := kA11.2.1 1 _ rfl
      have na3 := kA11.2.1 2 _ rfl
      have na4 := kA11.2.1 3 _ rfl
      have na5 := kA11.2.1 4 _ rfl
      go_wp2_with (fail)
      refine (toCt t A c _ (h.below b11') hn).mono ?_; rintro e w12 ⟨g12, rfl, m12⟩
      clear na1 na2 na3 na4 na5
      go_wp2_with (fail)
      refine (iThin t _ _ _ m12.2.2.1 hn).mono ?_; rintro e w13 ⟨A2, c2, rfl, f2⟩
      have b13 := bth (bth b11 m12.2.1) f2.1
      have k013 := k010.below b13
      have k113 := k110.below b13
      have z13 := k013.1
      have na1 := k013.2.1 0 _ rfl
      have na2 := k013.2.1 1 _ rfl
      have na3 := k013.2.1 2 _ rfl
      have na4 := k013.2.1 3 _ rfl
      have na5 := k013.2.1 4 _ rfl
      go_wp2_with (fail)
      generalize hW14 : World.alloc w13 _ = W14
      obtain ⟨bW14, kW14, zW14⟩ := alloc_facts hW14
      clear hW14
      refine (eqCt (thinC t) A2 A0 c2 c0 _ (f2.2.1.below bW14) (s010.below (bth b13 bW14)) hX).mono ?_; rintro e w14 ⟨rfl, b14⟩
      have k114 := k113.below (bth bW14 b14)
      clear na1 na2 na3 na4 na5
      have na1 := k114.2.1 0 _ rfl
      have na2 := k114.2.1 1 _ rfl
      have na3 := k114.2.1 2 _ rfl
      have na4 := k114.2.1 3 _ rfl
      have na5 := k114.2.1 4 _ rfl
      go_wp2_with (fail)
      refine (heldCt (thinC t) A1 c1 _ (s110.below (bth (bth b13 bW14) b14)) hX).mono ?_; rintro e w15 ⟨rfl, b15⟩
      go_wp2_with (fail)
      go_ret
      exact ⟨rfl, bth bW1 (bth (bth (bth b10 b13) (bth bW14 b14)) b15)⟩
  · go_enter Try.func7, Try.ntmps7
    go_wp2_with (fail)
    generalize hW : World.alloc w _ = W1
    obtain ⟨bW, _, _⟩ := alloc_facts hW
    clear hW
    refine (szCtNo t A c 1048576 _ (by omega) hm (by omega)).mono ?_; rintro e w0 ⟨rfl, b0⟩
    go_wp2_with (fail)
    go_ret
    exact ⟨rfl, bth bW b0⟩
end Go.Proofs.Ytfmlfeokdaahmaa
