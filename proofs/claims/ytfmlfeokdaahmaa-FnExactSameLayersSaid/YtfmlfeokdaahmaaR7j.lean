/- The law FnExactSameLayers returns true for every input and leaves its arguments as they were. No condition. -/
import Derived.Test.YtfmlfeokdaahmaaRows
import Derived.Test.YtfmlfeokdaahmaaL7j
import Derived.Test.YtfmlfeokdaahmaaRd7
import Derived.ProofKit
import Derived.OpenShut
import Derived.ChangeOld
set_option linter.unusedVariables false
set_option linter.unusedSimpArgs false
namespace Go.Proofs.Ytfmlfeokdaahmaa.rowFnExactSameLayers
open Go.ChangeShapes Go.WideShapes Go.ChangeAt Go.RowKit Go.Deep
open Go.ChangeMaps (open_string)
set_option linter.unusedVariables false
theorem own : ownKnob Try.prog.godebug = none := by kernel_rfl
theorem laidOut : laidOutB Try.prog = true := by kernel_rfl
set_option maxRecDepth 100000 in
theorem lifted (os : Os) (started : os.Started) (H : Type) (enc : TypeId × Value → H) :
    ReturnsInHanded {} Try.checked os 5 .any (Rows.fnExactSameLayersSpec.pre6 enc Try.prog Try.f5 Rows.fnExactSameLayersRow.domain false) (Rows.fnExactSameLayersSpec.post enc Try.prog Try.f5 false true false false) := by
  refine returnsInHanded_of_change (C := Try.checked) own started (by kernel_rfl) Try.func5
    (ChangeSpec.witness6 (enc := enc) (C := Try.checked) false ⟨#[], #[.agg #[.int .i64 0, .int .i64 0, .int .i64 0, .int .i64 0, .slice none 0 0], .agg #[.int .i64 0, .int .i64 0, .int .i64 0, .int .i64 0, .slice none 0 0], .int .i64 0], []⟩ 8 (by kernel_rfl) (by kernel_rfl) (by kernel_rfl) (by kernel_rfl)) ?_
  intro W base args ds gs before hval0 hW hcnd _
  have hval : ∀ (j : Nat) t v, Try.f5.params[j]? = some t → args[j]? = some v → Value.okWide Try.prog W .any base t v := hval0
  have hW' := hW
  obtain ⟨p, q, hA0, hV, rfl, hfz, hnd⟩ := hW
  have hA : DataW.TrodAll enc Try.prog W 0 (fun _ => true) true Try.f5.params.toList args.toList ds p := hA0
  rw [Try.params5] at hA hval
  obtain ⟨v0, vs0, d0, ds0, p0, q0, hargs, rfl, rfl, h0, r0⟩ := trodAll_cons hA
  obtain ⟨v1, vs1, d1, ds1, p1, q1, rfl, rfl, rfl, h1, r1⟩ := trodAll_cons r0
  obtain ⟨v2, vs2, d2, ds2, p2, q2, rfl, rfl, rfl, h2, r2⟩ := trodAll_cons r1
  obtain ⟨rfl, rfl, rfl⟩ := trodAll_nil r2
  obtain rfl : args = #[v0, v1, v2] := by cases args; simp_all
  obtain ⟨rfl, rfl⟩ := trodVars_none hV
  have k0 := h0
  have lt0 : ∀ x ∈ p0, x.block < W.heap.size := by obtain ⟨m, hm⟩ := k0; exact DataW.trod_lt m _ _ _ hm
  have k1 := h1
  have lt1 : ∀ x ∈ p1, x.block < W.heap.size := by obtain ⟨m, hm⟩ := k1; exact DataW.trod_lt m _ _ _ hm
  have k2 := h2
  have lt2 : ∀ x ∈ p2, x.block < W.heap.size := by obtain ⟨m, hm⟩ := k2; exact DataW.trod_lt m _ _ _ hm
  obtain ⟨cs0, rfl, _⟩ := okWide_struct Try.underlying26 (hval 0 26 v0 rfl rfl)
  obtain ⟨y0, a0, cap0, hy0, hs0, hm0, hc0⟩ : ∃ (y : Ct) (A : Option Addr) (cp : Nat), cs0 = #[.int .i64 y.id, .int .i64 y.time, .int .i64 y.x, .int .i64 y.y, .slice A y.lay.length cp] ∧ Sl 2 Ly.enc W A y.lay ∧ y.lay.length ≤ 9223372036854775807 ∧ y.lay.length ≤ cp := by
    obtain ⟨fuel, hf⟩ := h0
    obtain ⟨y, A, cp, hy, h1, h2, h3⟩ := rdCt _ _ _ hf
    exact ⟨y, A, cp, by simp [Value.cells] at hy; exact Array.ext' (by simpa using hy), h1, h2, h3⟩
  subst hy0
  obtain ⟨cs1, rfl, _⟩ := okWide_struct Try.underlying26 (hval 1 26 v1 rfl rfl)
  obtain ⟨y1, a1, cap1, hy1, hs1, hm1, hc1⟩ : ∃ (y : Ct) (A : Option Addr) (cp : Nat), cs1 = #[.int .i64 y.id, .int .i64 y.time, .int .i64 y.x, .int .i64 y.y, .slice A y.lay.length cp] ∧ Sl 2 Ly.enc W A y.lay ∧ y.lay.length ≤ 9223372036854775807 ∧ y.lay.length ≤ cp := by
    obtain ⟨fuel, hf⟩ := h1
    obtain ⟨y, A, cp, hy, h1, h2, h3⟩ := rdCt _ _ _ hf
    exact ⟨y, A, cp, by simp [Value.cells] at hy; exact Array.ext' (by simpa using hy), h1, h2, h3⟩
  subst hy1
  obtain ⟨x2, rfl, _, _, w2⟩ := open_int Try.underlying3 (hval 2 3 v2 rfl rfl) h2
  clear hA0 hval0
  refine (lawSame y0 a0 cap0 y1 a1 cap1 x2 W hs0 hm0 hc0 hs1 hm1 hc1).mono fun e W' ⟨he, bel⟩ => ?_
  subst he
  exact ⟨_, rfl, _, _, _, [], _, [], hW', trodAll_mk1 (shut_bool Try.underlying4 _), (trodAll_cons_mk (Below.trod laidOut (by kernel_rfl) (of_decide_eq_true (by kernel_rfl)) k0 bel lt0) (trodAll_cons_mk (Below.trod laidOut (by kernel_rfl) (of_decide_eq_true (by kernel_rfl)) k1 bel lt1) (trodAll_cons_mk (Below.trod laidOut (by kernel_rfl) (of_decide_eq_true (by kernel_rfl)) k2 bel lt2) trodAll_mk0))), rfl, bel.frame _, fun h => by cases h⟩
theorem over : Rows.fnExactSameLayersRow.holds Try.pinned (OpenSpec.ofChange Rows.fnExactSameLayersSpec) :=
  OpenClaim.holds_of_wide 5 Try.f5 rfl rfl rfl rfl rfl rfl rfl ⟨rfl, rfl, rfl, rfl, rfl⟩ rfl rfl rfl rfl rfl (by kernel_rfl) Try.func5 (by kernel_rfl)
    (of_decide_eq_true (by kernel_rfl)) (by unfold Func.isWrapper; first | (rw [if_pos (by decide +kernel)]; kernel_rfl) | (rw [if_neg (by decide +kernel)]; exact ⟨rfl, rfl⟩))
    (fun os started H enc _ => lifted os started H enc)
/-- THE STATEMENT. -/
theorem proved : Rows.FnExactSameLayersSaid := over
end Go.Proofs.Ytfmlfeokdaahmaa.rowFnExactSameLayers
