/- Plain facts on casts: speeds, thicknesses, travel. Lists and numbers alone. -/
import Derived.Test.YtfmlfeokdaahmaaP7
import Derived.Test.YtfmlfeokdaahmaaFrac
set_option linter.unusedVariables false
set_option linter.unusedSimpArgs false
namespace Go.Proofs.Ytfmlfeokdaahmaa
/-- The speed at a depth, by the first k layers. -/
def spdK (l : List Ly) (d : Int) : Nat → Int
  | 0 => 0
  | k + 1 => if (lyi l k).dep ≤ d then (lyi l k).spd else spdK l d k
theorem spdK_yes {l : List Ly} {d : Int} {k : Nat} (hk : k < l.length) (h : l[k].dep ≤ d) : spdK l d (k + 1) = l[k].spd := by rw [spdK, lyi_of hk, if_pos h]
theorem spdK_no {l : List Ly} {d : Int} {k : Nat} (hk : k < l.length) (h : ¬ l[k].dep ≤ d) : spdK l d (k + 1) = spdK l d k := by rw [spdK, lyi_of hk, if_neg h]
@[irreducible] def saOk (t : Ct) (d : Int) : Bool := ctOk t && inB d 0 20000
theorem saOk_def (t : Ct) (d : Int) : saOk t d = (ctOk t && inB d 0 20000) := by unfold saOk; rfl
@[irreducible] def saV (t : Ct) (d : Int) : Int := if saOk t d then spdK t.lay d t.lay.length else 0
theorem sa_bad {t : Ct} {d : Int} (h : saOk t d = false) : saV t d = 0 := by unfold saV; simp [h]
theorem sa_good {t : Ct} {d : Int} (h : saOk t d = true) : saV t d = spdK t.lay d t.lay.length := by unfold saV; simp [h]
/-- How thick layer k is above a depth. -/
def thk (l : List Ly) (d : Int) (k : Nat) : Int := max 0 ((if k + 1 < l.length then min d (lyi l (k + 1)).dep else d) - (lyi l k).dep)
theorem thk_more {l : List Ly} {d : Int} {k : Nat} (hk : k + 1 < l.length) : thk l d k = max 0 (min d l[k + 1].dep - (l[k]'(by omega)).dep) := by
  unfold thk; rw [if_pos hk, lyi_of hk, lyi_of (show k < l.length by omega)]
theorem thk_last {l : List Ly} {d : Int} {k : Nat} (hk : k < l.length) (h : ¬ k + 1 < l.length) : thk l d k = max 0 (d - l[k].dep) := by
  unfold thk; rw [if_neg h, lyi_of hk]
theorem thk_bd {l : List Ly} {d : Int} {k : Nat} (hd : 0 ≤ d) (hd2 : d ≤ 20001) (h : lyGood l = true) (hk : k < l.length) : 0 ≤ thk l d k ∧ thk l d k ≤ 20001 := by
  have b1 := lyAt_bd hk (lyGood_at h hk)
  by_cases h1 : k + 1 < l.length
  · rw [thk_more h1]; omega
  · rw [thk_last hk h1]; omega
def trvK (l : List Ly) (d : Int) : Nat → Int
  | 0 => 0
  | k + 1 => trvK l d k + thk l d k * 100000 / (lyi l k).spd
def wgtK (l : List Ly) (d : Int) : Nat → Int
  | 0 => 0
  | k + 1 => wgtK l d k + thk l d k * (lyi l k).spd
theorem div_bd {x s : Int} (h0 : 0 ≤ x) (h1 : x ≤ 2000100000) (h2 : 14000 ≤ s) : 0 ≤ x / s ∧ x / s ≤ 2000100000 := by
  constructor
  · exact Int.ediv_nonneg h0 (by omega)
  · exact Int.le_trans (Int.ediv_le_self s h0) h1
theorem trvK_bd {l : List Ly} {d : Int} (hd : 0 ≤ d) (hd2 : d ≤ 20001) (h : lyGood l = true) : ∀ k, k ≤ l.length → 0 ≤ trvK l d k ∧ trvK l d k ≤ 2000100000 * k
  | 0, _ => by simp [trvK]
  | k + 1, hk => by
    have h1 := trvK_bd hd hd2 h k (by omega)
    have h2 := thk_bd hd hd2 h (show k < l.length by omega)
    have h3 := lyAt_bd (show k < l.length by omega) (lyGood_at h (show k < l.length by omega))
    have h4 := div_bd (x := thk l d k * 100000) (s := l[k].spd) (by omega) (by omega) (by omega)
    rw [trvK, lyi_of (show k < l.length by omega)]; omega
theorem wgtK_bd {l : List Ly} {d : Int} (hd : 0 ≤ d) (hd2 : d ≤ 20001) (h : lyGood l = true) : ∀ k, k ≤ l.length → 0 ≤ wgtK l d k ∧ wgtK l d k ≤ 320016000 * k
  | 0, _ => by simp [wgtK]
  | k + 1, hk => by
    have h1 := wgtK_bd hd hd2 h k (by omega)
    have h2 := thk_bd hd hd2 h (show k < l.length by omega)
    have h3 := lyAt_bd (show k < l.length by omega) (lyGood_at h (show k < l.length by omega))
    have h4 := Int.mul_nonneg h2.1 (show 0 ≤ l[k].spd by omega)
    have h5 : thk l d k * l[k].spd ≤ 20001 * 16000 := Int.mul_le_mul h2.2 (by omega) (by omega) (by omega)
    rw [wgtK, lyi_of (show k < l.length by omega)]; omega
end Go.Proofs.Ytfmlfeokdaahmaa
