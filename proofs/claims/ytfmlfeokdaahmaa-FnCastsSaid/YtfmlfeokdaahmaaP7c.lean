/- Plain facts on casts: mean speeds; the depth that sound reaches in a time. Lists and numbers alone. -/
import Derived.Test.YtfmlfeokdaahmaaP7b
set_option linter.unusedVariables false
set_option linter.unusedSimpArgs false
namespace Go.Proofs.Ytfmlfeokdaahmaa
@[irreducible] def msOk (t : Ct) (d : Int) : Bool := ctOk t && inB d 1 20000
@[irreducible] def msN (t : Ct) (d : Int) : Int := if msOk t d then redN (wgtK t.lay d t.lay.length) d else 0
@[irreducible] def msD (t : Ct) (d : Int) : Int := if msOk t d then redD (wgtK t.lay d t.lay.length) d else 0
theorem ms_bad {t : Ct} {d : Int} (h : ctOk t = false ∨ inB d 1 20000 = false) : msOk t d = false ∧ msN t d = 0 ∧ msD t d = 0 := by
  have : msOk t d = false := by
    unfold msOk
    rcases h with h | h <;> simp [h]
  exact ⟨this, by unfold msN; simp [this], by unfold msD; simp [this]⟩
theorem ms_good {t : Ct} {d : Int} (h : ctOk t = true) (h2 : inB d 1 20000 = true) : msOk t d = true ∧ msN t d = redN (wgtK t.lay d t.lay.length) d ∧ msD t d = redD (wgtK t.lay d t.lay.length) d := by
  have : msOk t d = true := by unfold msOk; simp [h, h2]
  exact ⟨this, by unfold msN; simp [this], by unfold msD; simp [this]⟩
theorem thk_mono {l : List Ly} {d e : Int} (h : d ≤ e) (k : Nat) : thk l d k ≤ thk l e k := by
  unfold thk; split <;> omega
theorem trvK_mono {l : List Ly} {d e : Int} (hg : lyGood l = true) (h : d ≤ e) : ∀ k, k ≤ l.length → trvK l d k ≤ trvK l e k
  | 0, _ => Int.le_refl _
  | k + 1, hk => by
    have h1 := trvK_mono hg h k (by omega)
    have h2 := thk_mono (l := l) h k
    have h3 := lyAt_bd (show k < l.length by omega) (lyGood_at hg (show k < l.length by omega))
    have h4 : thk l d k * 100000 / l[k].spd ≤ thk l e k * 100000 / l[k].spd := Int.ediv_le_ediv (by omega) (by omega)
    rw [trvK, trvK, lyi_of (show k < l.length by omega)]; omega
theorem trvK_zero {l : List Ly} (hg : lyGood l = true) : ∀ k, k ≤ l.length → trvK l 0 k = 0
  | 0, _ => rfl
  | k + 1, hk => by
    have h3 := lyAt_bd (show k < l.length by omega) (lyGood_at hg (show k < l.length by omega))
    have h4 : thk l 0 k = 0 := by
      unfold thk; rw [lyi_of (show k < l.length by omega)]; split <;> omega
    rw [trvK, trvK_zero hg k (by omega), h4]; simp
@[irreducible] def trv (l : List Ly) (d : Int) : Int := trvK l d l.length
theorem trv_def (l : List Ly) (d : Int) : trv l d = trvK l d l.length := by unfold trv; rfl
theorem trv_mono {l : List Ly} {d e : Int} (hg : lyGood l = true) (h : d ≤ e) : trv l d ≤ trv l e := by rw [trv_def, trv_def]; exact trvK_mono hg h _ (Nat.le_refl _)
theorem trv_zero {l : List Ly} (hg : lyGood l = true) : trv l 0 = 0 := by rw [trv_def]; exact trvK_zero hg _ (Nat.le_refl _)
/-- The greatest depth of 0..n that sound reaches in the time. -/
def dfK (l : List Ly) (m : Int) : Nat → Int
  | 0 => 0
  | n + 1 => if trv l ((n : Int) + 1) ≤ m then (n : Int) + 1 else dfK l m n
theorem dfK_is {l : List Ly} {m : Int} {low : Nat} (h : trv l low ≤ m) : ∀ n, low ≤ n → (∀ d : Nat, low < d → d ≤ n → m < trv l d) → dfK l m n = low
  | 0, h0, _ => by
    obtain rfl : low = 0 := by omega
    rfl
  | n + 1, h0, h1 => by
    rw [dfK]
    by_cases e : low = n + 1
    · subst e; rw [if_pos (by simpa using h)]; simp
    · have := h1 (n + 1) (by omega) (Nat.le_refl _)
      rw [if_neg (by simp at this; omega), dfK_is h n (by omega) (fun d hd hd2 => h1 d hd (by omega))]
@[irreducible] def dfOk (t : Ct) (m : Int) : Bool := ctOk t && inB m 0 1000000
@[irreducible] def dfV (t : Ct) (m : Int) : Int := if dfOk t m then dfK t.lay m 20000 else 0
theorem df_bad {t : Ct} {m : Int} (h : ctOk t = false ∨ inB m 0 1000000 = false) : dfOk t m = false ∧ dfV t m = 0 := by
  have : dfOk t m = false := by
    unfold dfOk
    rcases h with h | h <;> simp [h]
  exact ⟨this, by unfold dfV; simp [this]⟩
theorem df_good {t : Ct} {m : Int} (h : ctOk t = true) (h2 : inB m 0 1000000 = true) : dfOk t m = true ∧ dfV t m = dfK t.lay m 20000 := by
  have : dfOk t m = true := by unfold dfOk; simp [h, h2]
  exact ⟨this, by unfold dfV; simp [this]⟩
end Go.Proofs.Ytfmlfeokdaahmaa
