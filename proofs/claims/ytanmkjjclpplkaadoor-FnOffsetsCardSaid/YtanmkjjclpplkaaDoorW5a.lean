/- Whether a text is a word, and whether a craft is valid: the reference's and the program's functions return the same. Texts of a length that a text can have. -/
import Derived.Test.YtanmkjjclpplkaaDoorP5
import Derived.Test.YtanmkjjclpplkaaDoorW1
set_option linter.unusedVariables false
set_option linter.unusedSimpArgs false
namespace Go.Proofs.YtanmkjjclpplkaaDoor
open Go.RowKit
set_option maxHeartbeats 4000000
set_option maxRecDepth 100000
theorem specWord (s : ByteArray) (w : World) (hs : s.size ≤ 9223372036854775807) :
    Calls Tryd.prog 39 #[.string s] w fun e w' => e = .returned (.bool (wordB s)) ∧ w = w' := by
  go_enter Tryd.func39, Tryd.ntmps39
  go_wp2
  go_loop [3] (fun i => ∃ k : Nat, k ≤ s.size ∧ i = .int .i64 k ∧ Hid (∀ m (hm : m < s.size), m < k → alphaB s[m] = true)) (fun i => s.size - (intOf i).toNat)
  case atStart => exact ⟨0, Nat.zero_le _, rfl, (fun m _ hm => absurd hm (by omega) : ∀ m (hm : m < s.size), m < 0 → alphaB s[m] = true)⟩
  case round =>
    obtain ⟨k, hk, rfl, H⟩ := hrel
    by_cases hlt : k < s.size
    · by_cases h1 : s[k].toNat < 97
      · have HB := Lib.hid (word_bad hlt (by unfold alphaB; rw [decide_eq_false (by omega)]; rfl))
        have h1' : (s[k].toNat : Int) < 97 := by omega
        go_wp2
        go_ret
        exact ⟨ret_bool HB.out.symm, rfl⟩
      · by_cases h2 : 122 < s[k].toNat
        · have HB := Lib.hid (word_bad hlt (by unfold alphaB; rw [decide_eq_false (show ¬ (s[k].toNat : Int) ≤ 122 by omega)]; simp))
          have h1' : ¬ (s[k].toNat : Int) < 97 := by omega
          have h2' : (122 : Int) < (s[k].toNat : Int) := by omega
          go_wp2
          go_ret
          exact ⟨ret_bool HB.out.symm, rfl⟩
        · have HA := Lib.hid (show alphaB s[k] = true by unfold alphaB; simp; omega)
          have h1' : ¬ (s[k].toNat : Int) < 97 := by omega
          have h2' : ¬ (122 : Int) < (s[k].toNat : Int) := by omega
          go_wp2
          go_round
          case rel => exact ⟨k + 1, by omega, by go_num, (fun m hm hm2 => by
            by_cases e : m = k
            · subst e; exact HA.out
            · exact H.out m hm (by omega) : ∀ m (hm : m < s.size), m < k + 1 → alphaB s[m] = true)⟩
          case measure => simp [intOf]; omega
    · obtain rfl : k = s.size := by omega
      go_wp2_with (go_at_call 38; refine (specIn _ _ _ _).mono ?_; rintro e w' ⟨rfl, rfl⟩)
      go_ret
      exact ⟨ret_bool (word_end H.out).symm, rfl⟩
theorem implWord (s : ByteArray) (w : World) (hs : s.size ≤ 9223372036854775807) :
    Calls Tryd.prog 37 #[.string s] w fun e w' => e = .returned (.bool (wordB s)) ∧ w = w' := by
  go_enter Tryd.func37, Tryd.ntmps37
  go_wp2
  go_loop [3] (fun i => ∃ k : Nat, k ≤ s.size ∧ i = .int .i64 k ∧ Hid (∀ m (hm : m < s.size), m < k → alphaB s[m] = true)) (fun i => s.size - (intOf i).toNat)
  case atStart => exact ⟨0, Nat.zero_le _, rfl, (fun m _ hm => absurd hm (by omega) : ∀ m (hm : m < s.size), m < 0 → alphaB s[m] = true)⟩
  case round =>
    obtain ⟨k, hk, rfl, H⟩ := hrel
    by_cases hlt : k < s.size
    · by_cases h1 : s[k].toNat < 97
      · have HB := Lib.hid (word_bad hlt (by unfold alphaB; rw [decide_eq_false (by omega)]; rfl))
        have h1' : (s[k].toNat : Int) < 97 := by omega
        go_wp2
        go_ret
        exact ⟨ret_bool HB.out.symm, rfl⟩
      · by_cases h2 : 122 < s[k].toNat
        · have HB := Lib.hid (word_bad hlt (by unfold alphaB; rw [decide_eq_false (show ¬ (s[k].toNat : Int) ≤ 122 by omega)]; simp))
          have h1' : ¬ (s[k].toNat : Int) < 97 := by omega
          have h2' : (122 : Int) < (s[k].toNat : Int) := by omega
          go_wp2
          go_ret
          exact ⟨ret_bool HB.out.symm, rfl⟩
        · have HA := Lib.hid (show alphaB s[k] = true by unfold alphaB; simp; omega)
          have h1' : ¬ (s[k].toNat : Int) < 97 := by omega
          have h2' : ¬ (122 : Int) < (s[k].toNat : Int) := by omega
          go_wp2
          go_round
          case rel => exact ⟨k + 1, by omega, by go_num, (fun m hm hm2 => by
            by_cases e : m = k
            · subst e; exact HA.out
            · exact H.out m hm (by omega) : ∀ m (hm : m < s.size), m < k + 1 → alphaB s[m] = true)⟩
          case measure => simp [intOf]; omega
    · obtain rfl : k = s.size := by omega
      go_wp2_with (go_at_call 36; refine (implIn _ _ _ _).mono ?_; rintro e w' ⟨rfl, rfl⟩)
      go_ret
      exact ⟨ret_bool (word_end H.out).symm, rfl⟩
theorem s5One (v : Cr) (w : World) (hs : v.name.size ≤ 9223372036854775807) :
    Calls Tryd.prog 20 #[.agg #[.int .i64 v.id, .string v.name, .int .i64 v.draught, .int .i64 v.ahead, .int .i64 v.beside, .int .i64 v.speed, .int .i64 v.fuel]] w fun e w' => e = .returned (.bool (crOk v)) ∧ Below w.heap.size w w' := by
  go_enter Tryd.func20, Tryd.ntmps20
  go_wp2_with (first
    | (go_at_call 38; refine (specIn _ _ _ _).mono ?_; rintro e w' ⟨rfl, rfl⟩)
    | (go_at_call 39; refine (specWord _ _ hs).mono ?_; rintro e w' ⟨rfl, rfl⟩))
  all_goals
    go_ret
    exact ⟨ret_bool (by rw [crOk_def]; simp [*]), by go_grown⟩
theorem i5One (v : Cr) (w : World) (hs : v.name.size ≤ 9223372036854775807) :
    Calls Tryd.prog 19 #[.agg #[.int .i64 v.id, .string v.name, .int .i64 v.draught, .int .i64 v.ahead, .int .i64 v.beside, .int .i64 v.speed, .int .i64 v.fuel]] w fun e w' => e = .returned (.bool (crOk v)) ∧ Below w.heap.size w w' := by
  go_enter Tryd.func19, Tryd.ntmps19
  go_wp2_with (first
    | (go_at_call 36; refine (implIn _ _ _ _).mono ?_; rintro e w' ⟨rfl, rfl⟩)
    | (go_at_call 37; refine (implWord _ _ hs).mono ?_; rintro e w' ⟨rfl, rfl⟩))
  all_goals
    go_ret
    exact ⟨ret_bool (by rw [crOk_def]; simp [*]), by go_grown⟩
end Go.Proofs.YtanmkjjclpplkaaDoor
