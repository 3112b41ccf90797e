/- The draw of casts: some list of at most eight casts of at most ten layers each; it changes the cursor alone. -/
import Derived.Test.YtfmlfeokdaahmaaDr14
set_option linter.unusedVariables false
set_option linter.unusedSimpArgs false
namespace Go.Proofs.Ytfmlfeokdaahmaa
open Go.RowKit
set_option maxHeartbeats 4000000
set_option maxRecDepth 100000
theorem Ch.one (x : Ch) : ∀ u ∈ x.enc, u.oneCell' = true := by simp [Ch.enc, Value.oneCell']
theorem Sl.grownN {α : Type} {K : Nat} {enc : α → List Value} {w w' : World} {A : Option Addr} {l : List α} {row : Option Nat} (h : Sl K enc w A l) (hg : w.grownBy w' row) (hne : 0 < l.length → ∀ a, A = some a → row ≠ some a.block) : Sl K enc w' A l := by
  intro h0
  obtain ⟨b, off, e, hlt, hc⟩ := h h0
  exact ⟨b, off, e, Nat.lt_of_lt_of_le hlt hg.size, fun i x hx j v hv => (World.cell?_of_block (w := w) (hg.block b hlt (fun e' => hne h0 _ e e'.symm))).trans (hc i x hx j v hv)⟩
theorem Sl.oneRow {α : Type} {K : Nat} {enc : α → List Value} {w : World} {g : Nat} {x : α} (h : Bk w g (enc x)) : Sl K enc w (some ⟨g, 0, none⟩) [x] := by
  intro _
  refine ⟨g, 0, rfl, h.1, fun i y hy j v hv => ?_⟩
  obtain ⟨rfl, rfl⟩ : i = 0 ∧ x = y := by
    cases i with
    | zero => exact ⟨rfl, by simpa using hy⟩
    | succ i => simp at hy
  simpa using h.2.1 j v hv
/-- What a drawn cast is good for, its layers in blocks from b on. -/
structure ChO (b : Nat) (w : World) (x : Ch) : Prop where
  s : Sl 2 Ly.enc w x.A x.t.lay
  n : x.t.lay.length ≤ 10
  c : x.t.lay.length ≤ x.cp
  b : ∀ a, x.A = some a → b ≤ a.block
theorem ChO.below {b : Nat} {w w' : World} {x : Ch} (h : ChO b w x) (hb : Below w.heap.size w w') : ChO b w' x := ⟨h.s.below hb, h.n, h.c, h.b⟩
theorem ChO.lb {b p : Nat} {w w' : World} {x : Ch} (h : ChO b w x) (hl : LB p w.heap.size w w') (hp : p < b) : ChO b w' x := ⟨h.s.lb hl (fun _ a ha => by have := h.b a ha; omega), h.n, h.c, h.b⟩
/-- The casts that have been drawn. -/
structure CsI (b : Nat) (hs : List Ch) (v : Value) (w : World) : Prop where
  o : OutS 5 Ch.enc b 32 w v hs
  a : ∀ x ∈ hs, ChO b w x ∧ (0 < x.t.lay.length → ∀ a, x.A = some a → v.ownBlock ≠ some a.block)
theorem CsI.next {p b : Nat} {hs : List Ch} {v : Value} {w w5 w' : World} (h : CsI b hs v w) (hb : Below w.heap.size w w5) (hl : LB p w5.heap.size w5 w') (hp : p < b) : CsI b hs v w' :=
  ⟨h.o.next hb hl hp, fun x hx => ⟨((h.a x hx).1.below hb).lb hl hp, (h.a x hx).2⟩⟩
theorem CsI.app {b : Nat} {hs : List Ch} {v v' : Value} {w w5 w' : World} {y : Ch} (h : CsI b hs v w) (h5 : Below w.heap.size w w5) (hy : ChO b w5 y) (hyn : ∀ a, y.A = some a → v.ownBlock ≠ some a.block) (hO : OutS 5 Ch.enc b 32 w' v' (hs ++ [y])) (hg : w5.grownBy w' v.ownBlock) (ho : v'.ownBlock = v.ownBlock ∨ v'.ownBlock = some w5.heap.size) : CsI b (hs ++ [y]) v' w' := by
  have key : ∀ x : Ch, ChO b w5 x → (0 < x.t.lay.length → ∀ a, x.A = some a → v.ownBlock ≠ some a.block) → ChO b w' x ∧ (0 < x.t.lay.length → ∀ a, x.A = some a → v'.ownBlock ≠ some a.block) := fun x k1 k2 => by
    refine ⟨⟨k1.s.grownN hg k2, k1.n, k1.c, k1.b⟩, fun h0 a ha => ?_⟩
    rcases ho with ho | ho
    · rw [ho]; exact k2 h0 a ha
    · rw [ho]; intro e; injection e with e; have := k1.s.lt h0 a ha; omega
  refine ⟨hO, fun x hx => ?_⟩
  rcases List.mem_append.1 hx with hx | hx
  · exact key x ((h.a x hx).1.below h5) (h.a x hx).2
  · obtain rfl : x = y := by simpa using hx
    exact key x hy (fun _ a ha => hyn a ha)
/-- What a draw of casts returns. -/
def CsO (p B : Nat) (q : Cd) (m : Nat) (w0 w : World) (e : Ending) (w' : World) : Prop :=
  ∃ (hs : List Ch) (A : Option Addr) (c : Nat), e = .returned (.slice A hs.length c) ∧ Sl 5 Ch.enc w' A hs ∧ (∀ x ∈ hs, ChO w.heap.size w' x) ∧ hs.length ≤ 10 ∧ hs.length ≤ c ∧ (∀ a, A = some a → w.heap.size ≤ a.block) ∧ Dr p B q m w0 w' ∧ LB p w.heap.size w w'
theorem CsI.ret {p B m m' : Nat} {q : Cd} {w0 w w' : World} {hs : List Ch} {v : Value} (h : CsI w.heap.size hs v w') (hn : hs.length ≤ 10) (D : Dr p B q m' w0 w') (hm : m' ≤ m) (L : LB p w.heap.size w w') : CsO p B q m w0 w (.returned v) w' := by
  obtain ⟨A, c, rfl, hc, hs', ho, hb⟩ := h.o.sl Ch.len
  exact ⟨hs, A, c, rfl, hs', fun x hx => (h.a x hx).1, hn, hc, hb, D.mono hm, L⟩
theorem dCasts {p B : Nat} {q : Cd} {m : Nat} {w0 w5 w : World} (h : Dr p B q m w0 w5) (hg : Below w5.heap.size w5 w) (hm : m ≤ 600000000) :
    Calls Try.prog 90 #[.pointer (some ⟨p, 0, none⟩)] w (CsO p B q (m + 1000) w0 w) := by
  have h := h.grown hg
  have hp := h.lt
  clear hg
  go_enter Try.func90, Try.ntmps90
  go_upto_region 2 with (fail)
  generalize hW : World.alloc w _ = W1
  have hO : CsI w.heap.size [] (.slice (some ⟨w.heap.size, 0, none⟩) 0 0) W1 := ⟨by rw [← hW]; exact OutS.empty (Nat.le_refl _), fun x hx => absurd hx (by simp)⟩
  have b1 : Below w.heap.size w W1 := by rw [← hW]; exact below_alloc _ _
  clear hW
  go_wp2_with (fail)
  refine (dAmongN h b1 (by omega) rfl (by decide) (by decide) (by simp) (by simp [isI])).mono ?_; rintro e w2 ⟨t0, rfl, -, D2, l2⟩
  have O2 := hO.next (below_alloc _ _) l2 hp
  have L2 := (LB.of (p := p) b1).next (below_alloc _ _) l2
  clear hO b1 l2 h
  go_wp2_with (fail)
  refine (dPick D2 (Below.refl _ _) (by omega) _ (by omega)).mono ?_; rintro e w3 ⟨r, rfl, hr, D3, l3⟩
  have O3 := O2.next (Below.refl _ _) l3 hp
  have L3 := L2.next (Below.refl _ _) l3
  clear O2 L2 D2 l3
  obtain ⟨n, rfl⟩ : ∃ n : Nat, r = (n : Int) := ⟨r.toNat, by omega⟩
  have hn5 : n ≤ 4 := by omega
  clear hr
  go_wp2_with (fail)
  go_loopw [3, 4, 5] (fun v tv nv wr => ∃ (hs : List Ch) (t : Int) (k : Nat), k ≤ 4 ∧ hs.length + k ≤ 4 ∧ tv = .int .i64 t ∧ nv = .int .i64 k ∧ Hid (CsI w.heap.size hs v wr) ∧ Dr p B q (m + 10 + 120 * (4 - k)) w0 wr ∧ LB p w.heap.size w wr) (fun _ _ nv _ => (intOf nv).toNat)
  case atStart => exact ⟨[], t0, n, hn5, by simpa using hn5, rfl, rfl, Lib.hid O3, D3.mono (by omega), L3⟩
  case round =>
    clear D3 O3 L3 hn5
    obtain ⟨hs, t, k, hk, hlk, rfl, rfl, HO, D, L⟩ := hrel
    by_cases hlt : 0 < k
    · obtain ⟨k', rfl⟩ : ∃ k', k = k' + 1 := ⟨k - 1, by omega⟩
      have t1 : (0 : Int) < ((k' + 1 : Nat) : Int) := by omega
      obtain ⟨A, c, rfl, hc, _, _, _⟩ := HO.out.o.sl Ch.len
      go_wp2_with (fail)
      refine (dPick D (Below.refl _ _) (by omega) _ (by omega)).mono ?_; rintro e w3 ⟨r3, rfl, hr3, D3, l3⟩
      have O3 := HO.out.next (Below.refl _ _) l3 hp
      have L3 := L.next (Below.refl _ _) l3
      clear HO D L l3 hr3
      go_wp2_with (fail)
      refine (dCast D3 (Below.refl _ _) (by omega) _ _).mono ?_; rintro e w4 ⟨y, Ay, cy, rfl, sy, ny, qy, by', D4, l4⟩
      have O4 := O3.next (Below.refl _ _) l4 hp
      have L4 := L3.next (Below.refl _ _) l4
      have z3 := L3.size
      have hcy : ChO w.heap.size w4 ⟨y, Ay, cy⟩ := ⟨sy, ny, qy, fun a ha => Nat.le_trans z3 (by' a ha)⟩
      have hny : ∀ a, Ay = some a → (Value.slice A hs.length c).ownBlock ≠ some a.block := fun a ha e => by have := (O3.o.lt _ e).2; have := by' a ha; omega
      have z4 := L4.size
      clear sy ny qy by' O3 L3 D3 l4
      go_wp2_with (at_builtin; refine wp_appK (K := 5) (bytes := 56) (enc := Ch.enc) Ch.len Ch.one (by decide) (by decide) _ rfl (.tmp 17) (.tmp 30) _ rfl Try.underlying48 infoCt rfl _ _ rfl (O4.o.below (by go_grown)) ⟨y, Ay, cy⟩ _ rfl (by intro j u hu; exact app_cell (by simp [Ch.enc]) hu) (by omega) (by simp; omega) ?_; intro v6 W6 hO6 hg6 hb6 ho6)
      have O6 := O4.app (by go_grown) (hcy.below (by go_grown)) hny hO6 hg6 ho6
      have b6 : Below w.heap.size w4 W6 := (Below.mono (by go_grown : Below w4.heap.size w4 _) z4).trans hb6
      have D6 := D4.belowB b6 hp
      have L6 := L4.trans (LB.of b6)
      have z6 := L6.size
      clear O4 D4 L4 hcy hny hO6 hg6 hb6 ho6 b6 z4
      refine (dAmongN D6 (Below.refl _ _) (by omega) rfl (by decide) (by decide) (by simp) (by simp [isI])).mono ?_; rintro e w7 ⟨z7, rfl, -, D7, l7⟩
      have O7 := O6.next (below_alloc _ _) l7 hp
      have L7 := L6.next (below_alloc _ _) l7
      clear O6 D6 L6 l7
      go_wp2_with (fail)
      refine (dPick D7 (Below.refl _ _) (by omega) _ (by omega)).mono ?_; rintro e w8 ⟨z8, rfl, -, D8, l8⟩
      have O8 := O7.next (Below.refl _ _) l8 hp
      have L8 := L7.next (Below.refl _ _) l8
      clear O7 D7 L7 l8
      go_wp2_with (fail)
      go_roundw
      case rel => exact ⟨hs ++ [⟨y, Ay, cy⟩], _, k', by omega, by simp; omega, rfl, by go_num, Lib.hid O8, D8.mono (by omega), L8⟩
      case measure => simp [intOf]
    · obtain rfl : k = 0 := by omega
      go_wp2_with (fail)
      refine (dOne D (Below.refl _ _) (by omega) _ (by omega)).mono ?_; rintro e w3 ⟨b3, rfl, D3, l3⟩
      have O3 := HO.out.next (Below.refl _ _) l3 hp
      have L3 := L.next (Below.refl _ _) l3
      have z3 := L3.size
      clear HO D L l3
      cases b3 with
      | false =>
        go_wp2_with (fail)
        go_ret
        exact O3.ret (by omega) D3 (by omega) L3
      | true =>
        clear O3
        go_wp2_with (fail)
        generalize hW : World.alloc w3 _ = W4
        have O4 : CsI w.heap.size [] (.slice (some ⟨w3.heap.size, 0, none⟩) 0 0) W4 := ⟨by rw [← hW]; exact OutS.empty z3, fun x hx => absurd hx (by simp)⟩
        have b4 : Below w3.heap.size w3 W4 := by rw [← hW]; exact below_alloc _ _
        have D4 := D3.grown b4
        have L4 := L3.grown b4
        clear hW D3 L3
        go_loopw [3, 6] (fun v i wr => ∃ (hs : List Ch) (k : Nat), k ≤ 7 ∧ hs.length = k ∧ i = .int .i64 k ∧ Hid (CsI w.heap.size hs v wr) ∧ Dr p B q (m + 500 + 2 * k) w0 wr ∧ LB p w.heap.size w wr) (fun _ i _ => 7 - (intOf i).toNat)
        case atStart => exact ⟨[], 0, by omega, rfl, rfl, Lib.hid O4, D4.mono (by omega), L4⟩
        case round =>
          clear O4 D4 L4 b4 hlk hk hlt
          obtain ⟨hs, k, hk, rfl, rfl, HO, D, L⟩ := hrel
          go_wp2_with (fail)
          refine (dPick D (Below.refl _ _) (by omega) _ (by omega)).mono ?_; rintro e w5 ⟨r5, rfl, hr5, D5, l5⟩
          have O5 := HO.out.next (Below.refl _ _) l5 hp
          have L5 := L.next (Below.refl _ _) l5
          have z5 := L5.size
          clear HO D L l5
          have y1 : IntKind.i64.wrap (6 + r5) = 6 + r5 := IntWalk.i64_in _ (by omega)
          by_cases hlt : (hs.length : Int) < 6 + r5
          · have y2 : IntKind.i64.wrap ((hs.length : Int) + 1) = (hs.length : Int) + 1 := IntWalk.i64_in _ (by omega)
            go_wp2_with (at_builtin; refine wp_appK (K := 5) (bytes := 56) (enc := Ch.enc) Ch.len Ch.one (by decide) (by decide) _ rfl (.tmp 51) (.tmp 58) _ rfl Try.underlying48 infoCt rfl _ _ rfl (O5.o.below (by go_grown)) ⟨⟨(hs.length : Int) + 1, (hs.length : Int), 0, 0, [⟨0, 15000⟩]⟩, some ⟨w5.heap.size, 0, none⟩, 1⟩ _ rfl (by intro j u hu; exact app_cell (by simp [Ch.enc]) hu) (by omega) (by simp; omega) ?_; intro v6 W6 hO6 hg6 hb6 ho6)
            have hsl : Sl 2 Ly.enc (w5.alloc (.cells #[.int .i64 0, .int .i64 15000] 76)) (some ⟨w5.heap.size, 0, none⟩) [⟨0, 15000⟩] := Sl.oneRow (Bk.new w5 [.int .i64 0, .int .i64 15000] 76)
            have O6 := O5.app (y := ⟨⟨(hs.length : Int) + 1, (hs.length : Int), 0, 0, [⟨0, 15000⟩]⟩, some ⟨w5.heap.size, 0, none⟩, 1⟩) (by go_grown) ⟨hsl.below (below_alloc _ _), by simp, by simp, fun a ha => by injection ha with ha; subst ha; exact z5⟩ (fun a ha e => by injection ha with ha; subst ha; have h5 := (O5.o.lt _ e).2; exact absurd h5 (Nat.lt_irrefl _)) hO6 hg6 ho6
            have b6 : Below w.heap.size w5 W6 := (Below.mono (by go_grown : Below w5.heap.size w5 _) z5).trans hb6
            refine ⟨⟨hs ++ [⟨⟨(hs.length : Int) + 1, (hs.length : Int), 0, 0, [⟨0, 15000⟩]⟩, some ⟨w5.heap.size, 0, none⟩, 1⟩], hs.length + 1, by omega, by simp, by go_num, Lib.hid O6, (D5.belowB b6 hp).mono (by omega), L5.trans (LB.of b6)⟩, by simp [intOf]; omega⟩
          · go_wp2_with (fail)
            go_ret
            exact O5.ret (by omega) D5 (by omega) L5
end Go.Proofs.Ytfmlfeokdaahmaa
