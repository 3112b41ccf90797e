/- Draws of layers of water: some list of at most ten; they change the cursor alone. -/
import Derived.Test.YtljpmccnppplgaaDr
import Derived.Test.YtljpmccnppplgaaOut2
import Derived.Test.YtljpmccnppplgaaX6h
set_option linter.unusedVariables false
set_option linter.unusedSimpArgs false
namespace Go.Proofs.Ytljpmccnppplgaa
open Go.RowKit
set_option maxHeartbeats 4000000
set_option maxRecDepth 100000
theorem OutS.lb {α : Type} {K base e p : Nat} {enc : α → List Value} {w w' : World} {v : Value} {l : List α} (h : OutS K enc base e w v l) (hl : LB p w.heap.size w w') (hp : p < base) : OutS K enc base e w' v l := by
  refine ⟨h.1, ?_⟩
  rcases h.2 with h0 | ⟨g, cap, cur, hv, hg, hh, r⟩
  · exact .inl h0
  · refine .inr ⟨g, cap, cur, hv, hg, ?_, r⟩
    rw [hl.block g (Array.getElem?_eq_some_iff.1 hh).1 (by omega)]; exact hh
theorem OutS.next {α : Type} {K base e p : Nat} {enc : α → List Value} {w5 W w1 : World} {v : Value} {l : List α} (h : OutS K enc base e w5 v l) (hb : Below w5.heap.size w5 W) (hl : LB p W.heap.size W w1) (hp : p < base) : OutS K enc base e w1 v l := (h.below hb).lb hl hp
theorem Ar.lb {w w' : World} {p g n : Nat} (h : Ar w g n) (hl : LB p w.heap.size w w') (hp : g ≠ p) : Ar w' g n :=
  ⟨Nat.lt_of_lt_of_le h.1 hl.size, fun i hi => by obtain ⟨v, hv⟩ := h.2.1 i hi; exact ⟨v, (hl.cell h.1 hp i).trans hv⟩, fun i => (hl.frozen h.1 hp i).trans (h.2.2 i)⟩
/-- One row is stored anew. -/
theorem Sl.set {α : Type} {K : Nat} {enc : α → List Value} {w : World} {g : Nat} {l : List α} {k : Nat} (x : α) (h : Sl K enc w (some ⟨g, 0, none⟩) l) (hA : Ar w g (l.length * K)) (hk : k < l.length) (hK : ∀ x, (enc x).length = K) :
    Sl K enc (w.setCells g (k * K) (enc x)) (some ⟨g, 0, none⟩) (l.set k x) := by
  intro _
  refine ⟨g, 0, rfl, by rw [size_setCells]; exact hA.1, fun i y hx j v hv => ?_⟩
  have hj : j < K := by rw [← hK y]; exact (List.getElem?_eq_some_iff.1 hv).1
  rw [List.getElem?_set] at hx
  rw [Nat.zero_add]
  by_cases e : k = i
  · subst e
    rw [if_pos rfl, if_pos hk] at hx
    obtain rfl : x = y := by injection hx
    have := World.cell?_setCells_in g (enc x) (k * K) w (fun j hj => by
      have : k * K + j < l.length * K := by
        have h1 : (k + 1) * K ≤ l.length * K := Nat.mul_le_mul_right K hk
        rw [Nat.succ_mul] at h1
        have := hK x; omega
      obtain ⟨v, hv⟩ := hA.2.1 _ this; rw [hv]; rfl) j (by rw [hK]; exact hj)
    rw [this]
    exact hv ▸ (List.getElem?_eq_getElem (by rw [hK]; exact hj)).symm
  · rw [if_neg e] at hx
    rw [World.cell?_setCells_out g (enc x) (k * K) w _ (fun _ _ => by
      show i * K + j < k * K ∨ k * K + (enc x).length ≤ i * K + j
      rw [hK]
      rcases Nat.lt_or_ge i k with h | h
      · have h1 : (i + 1) * K ≤ k * K := Nat.mul_le_mul_right K h
        rw [Nat.succ_mul] at h1; omega
      · have h1 : (k + 1) * K ≤ i * K := Nat.mul_le_mul_right K (show k + 1 ≤ i by omega)
        rw [Nat.succ_mul] at h1; omega)]
    obtain ⟨b, off, e', _, hc⟩ := h (by omega)
    injection e' with e'; injection e' with e1 e2
    subst e1 e2
    have := hc i y hx j v hv
    rwa [Nat.zero_add] at this
/-- What a draw of a list returns. -/
def drL {α : Type} (K : Nat) (enc : α → List Value) (N p B : Nat) (q : Cd) (m : Nat) (w0 w : World) (e : Ending) (w' : World) : Prop :=
  ∃ (l : List α) (A : Option Addr) (c : Nat), e = .returned (.slice A l.length c) ∧ Sl K enc w' A l ∧ Own K w' A l.length ∧ l.length ≤ N ∧ l.length ≤ c ∧ (∀ a, A = some a → w.heap.size ≤ a.block) ∧ Dr p B q m w0 w' ∧ LB p w.heap.size w w'
theorem drL_mk {α : Type} {K : Nat} {enc : α → List Value} {N p B : Nat} {q : Cd} {m m' n c : Nat} {w0 w w' : World} {A : Option Addr} (l : List α) (hl : l.length = n) (hs : Sl K enc w' A l) (ho : Own K w' A n) (hN : n ≤ N) (hc : n ≤ c) (hb : ∀ a, A = some a → w.heap.size ≤ a.block) (D : Dr p B q m' w0 w') (hm : m' ≤ m) (L : LB p w.heap.size w w') :
    drL K enc N p B q m w0 w (.returned (.slice A n c)) w' := by subst hl; exact ⟨l, A, c, rfl, hs, ho, hN, hc, hb, D.mono hm, L⟩
theorem drL_out {α : Type} {K e : Nat} {enc : α → List Value} {N p B : Nat} {q : Cd} {m m' : Nat} {w0 w w' : World} {v : Value} {l : List α} (hO : OutS K enc w.heap.size e w' v l) (hK : ∀ x, (enc x).length = K) (hN : l.length ≤ N) (D : Dr p B q m' w0 w') (hm : m' ≤ m) (L : LB p w.heap.size w w') :
    drL K enc N p B q m w0 w (.returned v) w' := by
  obtain ⟨A, c, rfl, hc, hs, ho, hb⟩ := hO.sl hK
  exact ⟨l, A, c, rfl, hs, ho, hN, hc, hb, D.mono hm, L⟩
def lenV : Value → Nat
  | .slice _ n _ => n
  | _ => 0
theorem dStrata {p B : Nat} {q : Cd} {m : Nat} {w0 w5 w : World} (h : Dr p B q m w0 w5) (hg : Below w5.heap.size w5 w) (hm : m ≤ 800000000) :
    Calls Try.prog 71 #[.pointer (some ⟨p, 0, none⟩)] w (drL 2 St.enc 10 p B q (m + 100) w0 w) := by
  have h := h.grown hg
  have hp := h.lt
  clear hg
  go_enter Try.func71, Try.ntmps71
  go_wp2_with (fail)
  generalize hW : World.alloc w _ = W1
  have hO : OutS 2 St.enc w.heap.size 52 W1 (.slice (some ⟨w.heap.size, 0, none⟩) 0 0) ([] : List St) := by rw [← hW]; exact OutS.empty (Nat.le_refl _)
  have b1 : Below w.heap.size w W1 := by rw [← hW]; exact below_alloc _ _
  clear hW
  refine (dPick h b1 (by omega) _ (by omega)).mono ?_; rintro e w1 ⟨r, rfl, hr, D1, l1⟩
  have O1 := hO.lb l1 hp
  have L1 := (LB.of b1).trans (l1.mono b1.size)
  clear hO b1 l1 h
  go_wp2_with (fail)
  go_loopw [3, 4] (fun v i wr => ∃ (l : List St) (k : Int), 0 ≤ k ∧ (1 ≤ (l.length : Int) + k ∧ (l.length : Int) + k ≤ 4) ∧ i = .int .i64 k ∧ Hid (OutS 2 St.enc w.heap.size 52 wr v l) ∧ Dr p B q (m + 2 + 4 * l.length) w0 wr ∧ LB p w.heap.size w wr) (fun _ i _ => (intOf i).toNat)
  case atStart => exact ⟨[], 1 + r, by omega, by simp; omega, by go_num, O1, D1, L1⟩
  case round =>
    clear O1 D1 L1
    obtain ⟨l, k, hk0, hk, rfl, HO, D, L⟩ := hrel
    by_cases hlt : 0 < k
    · go_wp2_with (fail)
      refine (dAmongN D (Below.refl _ _) (by omega) rfl (by decide) (by decide) (by decide) (by simp [isI])).mono ?_; rintro e w2 ⟨z1, rfl, -, D2, l2⟩
      have O2 := HO.out.next (below_alloc _ _) l2 hp
      have L2 := L.next (below_alloc _ _) l2
      go_wp2_with (fail)
      refine (dAmongN D2 (Below.refl _ _) (by omega) rfl (by decide) (by decide) (by decide) (by simp [isI])).mono ?_; rintro e w3 ⟨z2, rfl, -, D3, l3⟩
      have O3 := O2.next (below_alloc _ _) l3 hp
      have L3 := L2.next (below_alloc _ _) l3
      have hz3 := L3.size
      clear HO D L D2 l2 O2 L2 l3
      go_wp2_with (at_builtin; refine wp_app (K := 2) (bytes := 16) (enc := St.enc) St.len St.one (by decide) (by decide) _ rfl (.tmp 13) (.tmp 21) _ rfl Try.underlying25 infoStI rfl _ _ rfl (O3.below (by go_grown)) ⟨z1, z2⟩ _ rfl (by intro j u hu; exact app_cell (by simp) hu) (by omega) (by simp; omega) ?_; intro v' W4 hO2 hg2 hb4)
      have b4 : Below w.heap.size w3 W4 := (Below.mono (by go_grown : Below w3.heap.size w3 _) hz3).trans hb4
      refine ⟨⟨l ++ [⟨z1, z2⟩], k - 1, by omega, by simp; omega, by go_num, Lib.hid hO2, (D3.belowB b4 hp).mono (by simp; omega), L3.trans (LB.of b4)⟩, by simp [intOf]; omega⟩
    · obtain rfl : k = 0 := by omega
      have hll : l.length ≤ 4 := by omega
      have hl0 : 0 < l.length := by omega
      go_wp2_with (fail)
      refine (dPick D (Below.refl _ _) (by omega) _ (by omega)).mono ?_; rintro e w2 ⟨r2, rfl, hr2, D2, l2⟩
      have O2 := HO.out.next (Below.refl _ _) l2 hp
      have L2 := L.next (Below.refl _ _) l2
      clear HO D L l2
      by_cases c0 : r2 = 0
      · subst c0
        obtain ⟨A, c', rfl, hcl, hs, ho, hbk⟩ := O2.sl St.len
        obtain ⟨g, rfl, hAr⟩ := ho hl0
        have hgw := hbk _ rfl
        have hgp : g ≠ p := by have : w.heap.size ≤ g := hgw; omega
        have i0 : (0 : Int) < (l.length : Int) := by omega
        go_wp2_with (fail)
        refine (dAmongN D2 (Below.refl _ _) (by omega) rfl (by decide) (by decide) (by decide) (by simp [isI])).mono ?_; rintro e w3 ⟨z1, rfl, -, D3, l3⟩
        have L3 := L2.next (below_alloc _ _) l3
        have A3 := (hAr.below (below_alloc _ _)).lb l3 hgp
        have S3 := (hs.below (below_alloc _ _)).lb l3 (fun _ a ha => by injection ha with ha; subst ha; exact hgp)
        go_wp2_with (fail)
        refine (dAmongN D3 (Below.refl _ _) (by omega) rfl (by decide) (by decide) (by decide) (by simp [isI])).mono ?_; rintro e w4 ⟨z2, rfl, -, D4, l4⟩
        have L4 := L3.next (below_alloc _ _) l4
        have A4 := (A3.below (below_alloc _ _)).lb l4 hgp
        have S4 := (S3.below (below_alloc _ _)).lb l4 (fun _ a ha => by injection ha with ha; subst ha; exact hgp)
        clear L2 L3 A3 S3 D2 D3 l3 l4 hAr hs
        obtain ⟨v0, m0⟩ := A4.2.1 0 (by omega)
        obtain ⟨v1, m1⟩ := A4.2.1 1 (by omega)
        have f0 := A4.2.2 0
        have f1 := A4.2.2 1
        have hz := A4.1
        go_wp2_with (fail)
        have S5 := S4.set (k := 0) ⟨z1, z2⟩ A4 hl0 (fun _ => rfl)
        have A5 := A4.put (St.enc ⟨z1, z2⟩) 0 (by show 0 + 2 ≤ _; omega)
        have D5 := D4.sets (g := g) (by have : w.heap.size ≤ g := hgw; omega) (St.enc ⟨z1, z2⟩) 0
        have L5 := L4.sets (g := g) hgw (St.enc ⟨z1, z2⟩) 0
        simp only [Nat.zero_mul] at S5
        simp only [St.enc, World.setCells, Nat.zero_add, Nat.reduceAdd] at S5 A5 D5 L5
        go_ret
        exact drL_mk (l.set 0 ⟨z1, z2⟩) (by simp) S5 (fun _ => ⟨g, rfl, A5⟩) (by omega) hcl (fun a ha => by injection ha with ha; subst ha; exact hgw) D5 (by omega) L5
      · by_cases c1 : r2 = 1
        · subst c1
          go_wp2_with (fail)
          go_loopw [3] (fun v wr => ∃ (l : List St), l.length ≤ 6 ∧ Hid (OutS 2 St.enc w.heap.size 52 wr v l) ∧ Dr p B q (m + 24 + 2 * l.length) w0 wr ∧ LB p w.heap.size w wr) (fun v _ => 6 - lenV v)
          case atStart => exact ⟨l, by omega, O2, D2.mono (by omega), L2⟩
          case round =>
            clear D2 O2 L2 hll hl0 hk hk0
            obtain ⟨l, hl6, HO, D, L⟩ := hrel
            obtain ⟨A, c', hv, hcl, _, _, _⟩ := HO.out.sl St.len
            subst hv
            go_wp2_with (fail)
            refine (dPick D (Below.refl _ _) (by omega) _ (by omega)).mono ?_; rintro e w3 ⟨r3, rfl, hr3, D3, l3⟩
            have O3 := HO.out.next (Below.refl _ _) l3 hp
            have L3 := L.next (Below.refl _ _) l3
            have hz3 := L3.size
            clear HO D L l3
            by_cases hlt2 : (l.length : Int) < 5 + r3
            · go_wp2_with (at_builtin; refine wp_app (K := 2) (bytes := 16) (enc := St.enc) St.len St.one (by decide) (by decide) _ rfl (.tmp 44) (.tmp 46) _ rfl Try.underlying25 infoStI rfl _ _ rfl (O3.below (by go_grown)) ⟨10, 1400⟩ _ rfl (by intro j u hu; exact app_cell (by simp) hu) (by omega) (by simp; omega) ?_; intro v' W4 hO2 hg2 hb4)
              have b4 : Below w.heap.size w3 W4 := (Below.mono (by go_grown : Below w3.heap.size w3 _) hz3).trans hb4
              obtain ⟨A2, c2, hv2, _⟩ := hO2.sl St.len
              refine ⟨⟨l ++ [⟨10, 1400⟩], by simp; omega, Lib.hid hO2, (D3.belowB b4 hp).mono (by simp; omega), L3.trans (LB.of b4)⟩, by rw [hv2]; simp [lenV]; omega⟩
            · go_wp2_with (fail)
              go_ret
              exact drL_out O3 St.len (by omega) D3 (by omega) L3
        · by_cases c2 : r2 = 2
          · subst c2
            go_wp2_with (fail)
            generalize hW : World.alloc w2 _ = W3
            have hO : OutS 2 St.enc w.heap.size 52 W3 (.slice (some ⟨w2.heap.size, 0, none⟩) 0 0) ([] : List St) := by rw [← hW]; exact OutS.empty L2.size
            have b3 : Below w2.heap.size w2 W3 := by rw [← hW]; exact below_alloc _ _
            clear hW
            go_ret
            exact drL_out hO St.len (by simp) (D2.grown b3) (by omega) (L2.grown b3)
          · have i0 : r2 ≠ 0 := c0
            obtain ⟨A, c', rfl, hcl, hs, ho, hbk⟩ := O2.sl St.len
            go_wp2_with (fail)
            go_ret
            exact drL_out O2 St.len (by omega) D2 (by omega) L2
end Go.Proofs.Ytljpmccnppplgaa
