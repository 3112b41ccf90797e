/- The draw of two casts and a bound: the second has the first one's layers, but for the last one's speed, or its own. -/
import Derived.Test.YtfmlfeokdaahmaaDr17
import Derived.Deep.CutBlock
set_option linter.unusedVariables false
set_option linter.unusedSimpArgs false
namespace Go.Proofs.Ytfmlfeokdaahmaa
open Go.RowKit
set_option maxHeartbeats 4000000
set_option maxRecDepth 100000
/-- What a draw of two casts and a number returns. -/
def Ch2P (w : World) (e : Ending) (w' : World) : Prop := ∃ (u v : Ch) (z : Int), e = .returned (.tuple #[.agg #[.int .i64 u.t.id, .int .i64 u.t.time, .int .i64 u.t.x, .int .i64 u.t.y, .slice u.A u.t.lay.length u.cp], .agg #[.int .i64 v.t.id, .int .i64 v.t.time, .int .i64 v.t.x, .int .i64 v.t.y, .slice v.A v.t.lay.length v.cp], .int .i64 z]) ∧ ChO w.heap.size w' u ∧ ChO w.heap.size w' v ∧ Below w.heap.size w w'
theorem Sl.farN {α : Type} {K : Nat} {enc : α → List Value} {w : World} {A : Option Addr} {l : List α} (h : Sl K enc w A l) {g : Nat} (hne : 0 < l.length → ∀ a, A = some a → a.block ≠ g) (vs : List Value) (o : Nat) : Sl K enc (w.setCells g o vs) A l := fun hl => (h.far (hne hl) vs o) hl
/-- The two casts in their blocks g and g + 1, the results' blocks r and r + 1. -/
structure S2 (p r g : Nat) (u v : Ch) (w : World) : Prop where
  i : Bk w r (Ch.enc ⟨⟨0, 0, 0, 0, []⟩, none, 0⟩)
  k : Bk w (r + 1) (Ch.enc ⟨⟨0, 0, 0, 0, []⟩, none, 0⟩)
  a : Bk w g (Ch.enc u)
  b : Bk w (g + 1) (Ch.enc v)
  ou : ChO (p + 1) w u
  ov : ChO (p + 1) w v
  lu : 0 < u.t.lay.length → ∀ a, u.A = some a → a.block < g
theorem S2.next {p r g : Nat} {u v : Ch} {w w5 w' : World} (h : S2 p r g u v w) (hb : Below w.heap.size w w5) (hl : LB p w5.heap.size w5 w') (h1 : r + 1 < p) (h2 : p < g) : S2 p r g u v w' :=
  ⟨(h.i.below hb).lb hl (by omega), (h.k.below hb).lb hl (by omega), (h.a.below hb).lb hl (by omega), (h.b.below hb).lb hl (by omega), (h.ou.below hb).lb hl (by omega), (h.ov.below hb).lb hl (by omega), h.lu⟩
theorem S2.below {p r g : Nat} {u v : Ch} {w w' : World} (h : S2 p r g u v w) (hb : Below w.heap.size w w') : S2 p r g u v w' :=
  ⟨h.i.below hb, h.k.below hb, h.a.below hb, h.b.below hb, h.ou.below hb, h.ov.below hb, h.lu⟩
/-- The second cast gets other layers. -/
theorem S2.setB {p r g : Nat} {u v : Ch} {w : World} (h : S2 p r g u v w) (h1 : r + 1 < p) (h2 : p < g) (h0 : 0 < u.t.lay.length) {A : Option Addr} {c : Nat} {l : List Ly} (ho : ChO (p + 1) w ⟨⟨v.t.id, v.t.time, v.t.x, v.t.y, l⟩, A, c⟩) (hA : ∀ a, A = some a → g + 1 < a.block) : S2 p r g u ⟨⟨v.t.id, v.t.time, v.t.x, v.t.y, l⟩, A, c⟩ (w.setCell ⟨g + 1, 4, none⟩ (.slice A l.length c)) := by
  refine ⟨h.i.csetF (by omega) _, h.k.csetF (by omega) _, h.a.csetF (by omega) _, ?_, ⟨h.ou.s.farN (fun _ a ha => by have := h.lu h0 a ha; omega) [_] 4, h.ou.n, h.ou.c, h.ou.b⟩, ⟨ho.s.farN (fun _ a ha => by have := hA a ha; omega) [_] 4, ho.n, ho.c, ho.b⟩, h.lu⟩
  simpa [Ch.enc] using h.b.cset 4 (.slice A l.length c) (by simp [Ch.enc])
/-- A store behind both. -/
theorem S2.far {p r g : Nat} {u v : Ch} {w : World} (h : S2 p r g u v w) (h1 : r + 1 < p) (h2 : p < g) (h0 : 0 < u.t.lay.length) {g' : Nat} (hg : g + 1 < g') (hv : ∀ a, v.A = some a → a.block ≠ g') (vs : List Value) (o : Nat) : S2 p r g u v (w.setCells g' o vs) :=
  ⟨h.i.far (by omega) vs o, h.k.far (by omega) vs o, h.a.far (by omega) vs o, h.b.far (by omega) vs o, ⟨h.ou.s.farN (fun _ a ha => by have := h.lu h0 a ha; omega) vs o, h.ou.n, h.ou.c, h.ou.b⟩, ⟨h.ov.s.far hv vs o, h.ov.n, h.ov.c, h.ov.b⟩, h.lu⟩
/-- One layer of the second cast is stored. -/
theorem S2.setL {p r g : Nat} {u v : Ch} {w : World} (h : S2 p r g u v w) (h1 : r + 1 < p) (h2 : p < g) (h0 : 0 < u.t.lay.length) {g' k : Nat} (hg : g + 1 < g') (hv : v.A = some ⟨g', 0, none⟩) (hA : Ar w g' (v.t.lay.length * 2)) (hk : k < v.t.lay.length) (y : Ly) : S2 p r g u ⟨⟨v.t.id, v.t.time, v.t.x, v.t.y, v.t.lay.set k y⟩, v.A, v.cp⟩ (w.setCells g' (k * 2) (Ly.enc y)) := by
  refine ⟨h.i.far (by omega) _ _, h.k.far (by omega) _ _, h.a.far (by omega) _ _, ?_, ⟨h.ou.s.farN (fun _ a ha => by have := h.lu h0 a ha; omega) _ _, h.ou.n, h.ou.c, h.ou.b⟩, ⟨?_, by simpa using h.ov.n, by simpa using h.ov.c, h.ov.b⟩, h.lu⟩
  · have := h.b.far (show g + 1 ≠ g' by omega) (Ly.enc y) (k * 2)
    simpa [Ch.enc] using this
  · have hs := h.ov.s
    show Sl 2 Ly.enc _ v.A _
    rw [hv] at hs ⊢
    exact Sl.set y hs hA hk Ly.len
theorem Ar.farC {w : World} {g g' n : Nat} (h : Ar w g n) (hne : g ≠ g') (vs : List Value) (o : Nat) : Ar (w.setCells g' o vs) g n :=
  ⟨by rw [size_setCells]; exact h.1, fun i hi => by obtain ⟨v, hv⟩ := h.2.1 i hi; exact ⟨v, (World.cell?_of_block (w := w) (heap_setCells g' vs o w g hne)).trans hv⟩, fun i => by rw [World.frozen?_setCells]; exact h.2.2 i⟩
theorem drSame (X : Option Addr) (x : Nat) (k : List UInt8) (w : World) (h : Sl 1 encU w X k) (hn : k.length ≤ 1048576) :
    Calls Try.prog 51 #[.slice X k.length x] w (Ch2P w) := by
  go_enter Try.func51, Try.ntmps51
  go_upto_region 1 with (fail)
  generalize hr : w.heap.size = r
  generalize hW : World.alloc w _ = W1
  have I1 : Bk W1 r (Ch.enc ⟨⟨0, 0, 0, 0, []⟩, none, 0⟩) := by rw [← hW, ← hr]; exact Bk.new _ _ _
  have b1 : Below r w W1 := by rw [← hW, ← hr]; exact below_alloc _ _
  have eW : W1.heap.size = r + 1 := by rw [← hW, ← hr]; simp
  have h1 : Sl 1 encU W1 X k := by rw [← hW]; exact h.below (below_alloc _ _)
  clear hW
  generalize hW : World.alloc W1 _ = W2
  have K2 : Bk W2 (r + 1) (Ch.enc ⟨⟨0, 0, 0, 0, []⟩, none, 0⟩) := by rw [← hW, ← eW]; exact Bk.new _ _ _
  have b2 : Below W1.heap.size W1 W2 := by rw [← hW]; exact below_alloc _ _
  have h1 := h1.below b2
  have I2 := I1.below b2
  have b2 : Below r w W2 := b1.trans (b2.mono (by omega))
  clear hW I1 b1 eW
  go_upto_region 2 with (fail)
  have D0 := Dr.new (c := x) 92 h1 hn
  have hrp : r + 1 < W2.heap.size := K2.1
  generalize hp : W2.heap.size = p at *
  generalize hW : World.alloc W2 _ = W0 at *
  clear hW
  have hz0 := D0.lt
  go_wp2_with (fail)
  refine (dCastH D0 (Below.refl _ _) (by omega) _ _).mono ?_; rintro e w1 ⟨u, rfl, ou, D1, l1⟩
  have hz1 := l1.size
  go_wp2_with (fail)
  refine (dCastH D1 (Below.refl _ _) (by omega) _ _).mono ?_; rintro e w3 ⟨v, rfl, ov, D3, l3⟩
  have hz3 := l3.size
  go_upto_region 3 with (fail)
  have X5 : S2 p r w3.heap.size u v ((w3.alloc (.cells #[.int .i64 u.t.id, .int .i64 u.t.time, .int .i64 u.t.x, .int .i64 u.t.y, .slice u.A u.t.lay.length u.cp] 32)).alloc (.cells #[.int .i64 v.t.id, .int .i64 v.t.time, .int .i64 v.t.x, .int .i64 v.t.y, .slice v.A v.t.lay.length v.cp] 32)) := by
    have ba := below_alloc w3 (.cells #[.int .i64 u.t.id, .int .i64 u.t.time, .int .i64 u.t.x, .int .i64 u.t.y, .slice u.A u.t.lay.length u.cp] 32)
    have kb := Bk.new w3 (Ch.enc u) 32
    have ez : (w3.alloc (.cells #[.int .i64 u.t.id, .int .i64 u.t.time, .int .i64 u.t.x, .int .i64 u.t.y, .slice u.A u.t.lay.length u.cp] 32)).heap.size = w3.heap.size + 1 := by simp
    have bb := below_alloc (w3.alloc (.cells #[.int .i64 u.t.id, .int .i64 u.t.time, .int .i64 u.t.x, .int .i64 u.t.y, .slice u.A u.t.lay.length u.cp] 32)) (.cells #[.int .i64 v.t.id, .int .i64 v.t.time, .int .i64 v.t.x, .int .i64 v.t.y, .slice v.A v.t.lay.length v.cp] 32)
    have kk := Bk.new (w3.alloc (.cells #[.int .i64 u.t.id, .int .i64 u.t.time, .int .i64 u.t.x, .int .i64 u.t.y, .slice u.A u.t.lay.length u.cp] 32)) (Ch.enc v) 32
    rw [ez] at kk
    have B2 := bth ba bb
    have o3 := ou.lb l3 (by omega)
    exact ⟨(I2.below (hp ▸ D3.done)).below B2, (K2.below (hp ▸ D3.done)).below B2, kb.below bb, kk, (o3.base (by omega)).below B2, (ov.base (by omega)).below B2, fun h0 a ha => o3.s.lt h0 a ha⟩
  have D5 := D3.grown (bth (below_alloc w3 (.cells #[.int .i64 u.t.id, .int .i64 u.t.time, .int .i64 u.t.x, .int .i64 u.t.y, .slice u.A u.t.lay.length u.cp] 32)) (below_alloc _ (.cells #[.int .i64 v.t.id, .int .i64 v.t.time, .int .i64 v.t.x, .int .i64 v.t.y, .slice v.A v.t.lay.length v.cp] 32)))
  generalize World.alloc (World.alloc w3 _) _ = W5 at *
  have hpg : p < w3.heap.size := by omega
  generalize w3.heap.size = g at *
  clear D0 D1 D3 l1 l3 ou ov hz0 hz1 hz3 I2 K2
  go_cut [23] from 9 (fun t wx => ∃ o : Bool, t = .bool o ∧ (o = true → 0 < u.t.lay.length) ∧ Hid (S2 p r g u v wx) ∧ Dr p p ⟨X, x, k⟩ 202 W2 wx)
  case first =>
    go_wp2_with (fail)
    refine (dOne D5 (Below.refl _ _) (by omega) _ (by omega)).mono ?_; rintro e w6 ⟨o, rfl, D6, l6⟩
    have X6 := X5.next (Below.refl _ _) l6 hrp hpg
    clear X5 D5 l6
    have j4 : w6.cell? ⟨g, 4, none⟩ = some (.slice u.A u.t.lay.length u.cp) := X6.a.2.1 4 _ rfl
    have hgz := X6.a.1
    cases o with
    | false =>
      go_wp2_with (fail)
      go_meet
      case rel => exact ⟨false, rfl, by simp, Lib.hid X6, D6⟩
    | true =>
      by_cases h0 : 0 < u.t.lay.length
      · have u0 : (0 : Int) < (u.t.lay.length : Int) := by omega
        go_wp2_with (fail)
        go_meet
        case rel => exact ⟨true, rfl, fun _ => h0, Lib.hid X6, D6⟩
      · have u0 : ¬ (0 : Int) < (u.t.lay.length : Int) := by omega
        go_wp2_with (fail)
        go_meet
        case rel => exact ⟨false, rfl, by simp, Lib.hid X6, D6⟩
  case rest =>
  clear X5 D5
  obtain ⟨o, rfl, h0, HX, D6⟩ := hcut
  go_upto_if 23 with (fail)
  go_cut [8] from 9 (fun _ wx => ∃ v' : Ch, Hid (S2 p r g u v' wx) ∧ Dr p p ⟨X, x, k⟩ 300 W2 wx)
  case first =>
    cases o with
    | false =>
      go_wp2_with (fail)
      go_meet
      case rel => exact ⟨v, HX, D6.mono (by omega)⟩
    | true =>
      have hu0 : 0 < u.t.lay.length := h0 rfl
      clear h0
      have X7 := HX.out
      have j4 : wc.cell? ⟨g, 4, none⟩ = some (.slice u.A u.t.lay.length u.cp) := X7.a.2.1 4 _ rfl
      have hgz := X7.a.1
      have hnu := X7.ou.n
      have hgz2 := X7.b.1
      go_upto_region 5 with (at_builtin; refine wp_appL (K := 2) (bytes := 16) (enc := Ly.enc) (base := wc.heap.size) Ly.len Ly.one (by decide) (by decide) _ rfl (.tmp 24) (.tmp 26) _ rfl Try.underlying30 infoLy rfl _ ([] : List Ly) rfl (OutS.empty (Nat.le_refl _)) u.t.lay u.A u.cp rfl (X7.ou.s.below (by go_grown)) (by omega) (by simp) (by simp) ?_; intro v8 W8 hO8 hg8 hb8 _; rw [List.nil_append] at hO8; have b8 : Below wc.heap.size wc W8 := (below_alloc wc _).trans hb8; have X8 := X7.below b8; obtain ⟨A8, c8, hv8, hc8, s8, ow8, B8⟩ := hO8.sl Ly.len; obtain ⟨g', hA8, hAr⟩ := ow8 hu0; have hg' : wc.heap.size ≤ g' := B8 _ hA8; subst hA8; subst hv8; have D8 := D6.grown b8; have m8 := X8.b.2.1 4 _ rfl; have f8 := X8.b.2.2 4; have z8 := X8.b.1; have HX8 := Lib.hid X8; have s8 := Lib.hid s8; clear X8 hO8 hg8 hb8 ow8 B8)
      have ho8 : ChO (p + 1) W8 ⟨⟨v.t.id, v.t.time, v.t.x, v.t.y, u.t.lay⟩, some ⟨g', 0, none⟩, c8⟩ := ⟨s8.out, hnu, hc8, fun a ha => by injection ha with ha; subst ha; show p + 1 ≤ g'; omega⟩
      have X9 := HX8.out.setB hrp hpg hu0 ho8 (fun a ha => by injection ha with ha; subst ha; show g + 1 < g'; omega)
      have A9 := hAr.farC (show g' ≠ g + 1 by omega) [.slice (some ⟨g', 0, none⟩) u.t.lay.length c8] 4
      have D9 := D8.set (g := g + 1) (o := 4) (by omega) (.slice (some ⟨g', 0, none⟩) u.t.lay.length c8)
      simp only [World.setCells] at A9
      have hg1 : g + 1 < g' := by omega
      clear HX HX8 D6 X7 j4 hgz hgz2 b8 s8 ho8 hAr D8 m8 f8 z8
      generalize World.setCell W8 _ _ = W9 at *
      have hk : u.t.lay.length - 1 < u.t.lay.length := by omega
      have u1 : (1 : Int) ≤ (u.t.lay.length : Int) := by omega
      obtain ⟨hbl, c0, c1⟩ := Ly.get X9.ov.s hk
      simp only [Nat.zero_add] at c0 c1
      have hj4 : W9.cell? ⟨g + 1, 4, none⟩ = some (.slice (some ⟨g', 0, none⟩) u.t.lay.length c8) := X9.b.2.1 4 _ rfl
      have hjz := X9.b.1
      generalize hkk : u.t.lay.length - 1 = kk at *
      go_upto_region 6 with (fail)
      have X10 := X9.below (below_alloc W9 (.cells #[.int .i64 u.t.lay[kk].dep, .int .i64 u.t.lay[kk].spd] 76))
      have A10 := A9.below (below_alloc W9 (.cells #[.int .i64 u.t.lay[kk].dep, .int .i64 u.t.lay[kk].spd] 76))
      have D10 := D9.grown (below_alloc W9 (.cells #[.int .i64 u.t.lay[kk].dep, .int .i64 u.t.lay[kk].spd] 76))
      have Y10 : Bk (W9.alloc (.cells #[.int .i64 u.t.lay[kk].dep, .int .i64 u.t.lay[kk].spd] 76)) W9.heap.size [.int .i64 u.t.lay[kk].dep, .int .i64 u.t.lay[kk].spd] := Bk.new W9 [.int .i64 u.t.lay[kk].dep, .int .i64 u.t.lay[kk].spd] _
      clear X9 A9 D9 c0 c1 hj4 hjz
      generalize World.alloc W9 _ = W10 at *
      generalize W9.heap.size = gx at *
      generalize u.t.lay[kk].dep = ya at *
      generalize u.t.lay[kk].spd = yb at *
      go_cut [] from 9 (fun wx => ∃ zb : Int, Hid (S2 p r g u ⟨⟨v.t.id, v.t.time, v.t.x, v.t.y, u.t.lay⟩, some ⟨g', 0, none⟩, c8⟩ wx ∧ Ar wx g' (u.t.lay.length * 2) ∧ Bk wx gx [.int .i64 ya, .int .i64 zb]) ∧ Dr p p ⟨X, x, k⟩ 204 W2 wx)
      case first =>
        have y1 : W10.cell? ⟨gx, 1, none⟩ = some (.int .i64 yb) := Y10.2.1 1 _ rfl
        have yz := Y10.1
        have HX10 := Lib.hid X10
        have HA10 := Lib.hid A10
        have HY10 := Lib.hid Y10
        clear X10 A10 Y10
        go_region_law (first
            | (go_simp; go_at_call 84; refine (dPick D10 (Below.refl _ _).drew (by omega) 3 (by omega)).mono ?_; rintro e w6 ⟨r3, rfl, hr3, D6, l6⟩; have Y6 := (HY10.out.below (Below.refl _ _).drew).lb l6 (by omega); have y6 : w6.cell? ⟨gx, 1, none⟩ = some (.int .i64 yb) := Y6.2.1 1 _ rfl; have yf := Y6.2.2 1; have yz6 := Y6.1; have HY6 := Lib.hid Y6; have HX6 := Lib.hid (HX10.out.next (Below.refl _ _).drew l6 hrp hpg); have HA6 := Lib.hid ((HA10.out.below (Below.refl _ _).drew).lb l6 (by omega)); clear Y6 l6)
            | (go_simp; go_at_call 89; refine (specLeast _ _ _).mono ?_; rintro e w' ⟨rfl, rfl⟩))
        all_goals
          go_wp2_with (fail)
          go_meet
          case rel => exact ⟨_, Lib.hid ⟨HX6.out.far hrp hpg hu0 (show g + 1 < gx by omega) (fun a ha => by injection ha with ha; subst ha; show g' ≠ gx; omega) [_] 1, HA6.out.farC (show g' ≠ gx by omega) [_] 1, HY6.out.cset 1 _ (by simp)⟩, D6.set (by omega) _⟩
      case rest =>
      clear X10 A10 Y10 D10
      obtain ⟨zb, HY, D⟩ := hcut
      obtain ⟨X7, A7, Y7⟩ := HY.out
      have q4 : wc.cell? ⟨g + 1, 4, none⟩ = some (.slice (some ⟨g', 0, none⟩) u.t.lay.length c8) := X7.b.2.1 4 _ rfl
      have qz := X7.b.1
      have y0 := Y7.2.1 0 _ rfl
      have y1 := Y7.2.1 1 _ rfl
      have yz := Y7.1
      obtain ⟨v0, m0⟩ := A7.2.1 (kk * 2) (by omega)
      obtain ⟨v1, m1⟩ := A7.2.1 (kk * 2 + 1) (by omega)
      have f0 := A7.2.2 (kk * 2)
      have f1 := A7.2.2 (kk * 2 + 1)
      have hzA := A7.1
      clear X7 A7 Y7
      go_wp2_with (fail)
      go_meet
      case rel => exact ⟨_, Lib.hid (HY.out.1.setL hrp hpg hu0 hg1 rfl HY.out.2.1 hk ⟨ya, zb⟩), (D.sets (g := g') (by omega) (Ly.enc ⟨ya, zb⟩) (kk * 2)).mono (by omega)⟩
  case rest =>
  clear HX D6 h0
  obtain ⟨v', HX, D7⟩ := hcut
  have X7 := HX.out
  have KS := Lib.hid (fun (w' : World) (hl : LB p wc.heap.size wc w') => And.intro (celHBk (X7.a.lb hl (by omega))) (celHBk (X7.b.lb hl (by omega))))
  have K9 := Lib.hid (fun (w' : World) (hl : LB p wc.heap.size wc w') => And.intro (celHBk ((X7.a.lb hl (by omega)).far (show g ≠ r by omega) (Ch.enc u) 0)) (celHBk ((X7.b.lb hl (by omega)).far (show g + 1 ≠ r by omega) (Ch.enc u) 0)))
  have K10 := Lib.hid (fun (w' : World) (hl : LB p wc.heap.size wc w') => And.intro (celHBk (((X7.a.lb hl (by omega)).far (show g ≠ r by omega) (Ch.enc u) 0).far (show g ≠ r + 1 by omega) (Ch.enc v') 0)) (celHBk (((X7.b.lb hl (by omega)).far (show g + 1 ≠ r by omega) (Ch.enc u) 0).far (show g + 1 ≠ r + 1 by omega) (Ch.enc v') 0)))
  have Q10 := Lib.hid (fun (w' : World) (hl : LB p wc.heap.size wc w') => (X7.k.lb hl (by omega)).far (show r + 1 ≠ r by omega) (Ch.enc u) 0)
  simp only [Ch.enc, World.setCells, Nat.zero_add, Nat.reduceAdd] at K9 K10
  have hw3 : p < wc.heap.size := D7.lt
  have hcs : 7 ≤ (#[.int .i64 0, .int .i64 1, .int .i64 200, .int .i64 1000, .int .i64 2000, .int .i64 (-1), .int .i64 2001] : Array Value).size := by decide
  have hal : (#[.int .i64 0, .int .i64 1, .int .i64 200, .int .i64 1000, .int .i64 2000, .int .i64 (-1), .int .i64 2001] : Array Value).all isI = true := by simp [isI]
  have h05 : (0 : Int) ≤ 5 := by omega
  have h57 : (5 : Int) + 2 ≤ 7 := by omega
  have h7k : (7 : Int) ≤ 1000 := by omega
  have h15 : (1 : Int) ≤ 5 + 0 := by omega
  have h011 : (0 : Int) ≤ 11 := by omega
  have h24 : (24 : Int) ≤ 1048577 := by omega
  have hn9 : 7 ≤ 1000 := by omega
  have hWp : wc.heap.size ≠ p := by omega
  have hm8 : 300 ≤ 900000000 := by omega
  have hm9 : 300 + 2 ≤ 900000000 := by omega
  have hcI := X7.i
  clear X7
  go_upto_region 8 with (fail)
  go_region_held3 (fun w' => (w'.cell? ⟨g, 0, none⟩ = some (.int .i64 u.t.id) ∧ w'.cell? ⟨g, 1, none⟩ = some (.int .i64 u.t.time) ∧ w'.cell? ⟨g, 2, none⟩ = some (.int .i64 u.t.x) ∧ w'.cell? ⟨g, 3, none⟩ = some (.int .i64 u.t.y) ∧ w'.cell? ⟨g, 4, none⟩ = some (.slice u.A u.t.lay.length u.cp)) ∧ (w'.cell? ⟨(g + 1), 0, none⟩ = some (.int .i64 v'.t.id) ∧ w'.cell? ⟨(g + 1), 1, none⟩ = some (.int .i64 v'.t.time) ∧ w'.cell? ⟨(g + 1), 2, none⟩ = some (.int .i64 v'.t.x) ∧ w'.cell? ⟨(g + 1), 3, none⟩ = some (.int .i64 v'.t.y) ∧ w'.cell? ⟨(g + 1), 4, none⟩ = some (.slice v'.A v'.t.lay.length v'.cp))) (first | with_reducible exact S10 | first | with_reducible exact S7 | with_reducible exact KS.out _ (LB.of (Below.refl _ _)) | with_reducible exact KS.out _ (LB.of (Below.refl _ _).drew) | with_reducible exact KS.out _ (LB.of (below_alloc _ _)) | with_reducible exact KS.out _ (LB.of (below_alloc _ _).drew) | with_reducible exact KS.out _ K6 | with_reducible exact KS.out _ K7 | with_reducible exact KS.out _ (K6.grown (below_alloc _ _))) (first | (go_at_call 84; first | ((with_reducible refine (dPickA 7 D7 (Below.refl _ _).drew hm8 hcs hal 24 h24).mono ?_); rintro e w6 ⟨o, rfl, ho, D6, K6, N6, z6⟩; obtain ⟨o0, ot, oz, oa, ob, ow⟩ := by24 5 7 ho h05 h57 h7k; have o1 := Int.le_trans h15 (Int.add_le_add_left (Int.ediv_nonneg o0 h011) 5); have ob2 : 5 + o / 11 ≤ ((7 : Nat) : Int) := ob) | ((with_reducible refine (dPick D7 (Below.refl _ _).drew hm8 24 h24).mono ?_); rintro e w6 ⟨o, rfl, ho, D6, l6⟩; have K6 := LB.next (LB.of (Below.refl _ _)) (Below.refl _ _).drew l6; obtain ⟨o0, ot, oz, oa, ob, ow⟩ := by24 5 7 ho h05 h57 h7k; have o1 := Int.le_trans h15 (Int.add_le_add_left (Int.ediv_nonneg o0 h011) 5); have ob2 : 5 + o / 11 ≤ ((7 : Nat) : Int) := ob)) | (go_at_call 83; first | ((with_reducible refine (dAmongZ D6 (Below.refl _ _) hm9 N6 hWp z6 ob2 o1 hn9).mono ?_); rintro e w7 ⟨z, rfl, -, D8, l7⟩; have K7 := K6.next (Below.refl _ _) l7; have I7 := hcI.lb K7 (by omega); have m0 := I7.2.1 0 _ rfl; have m1 := I7.2.1 1 _ rfl; have m2 := I7.2.1 2 _ rfl; have m3 := I7.2.1 3 _ rfl; have m4 := I7.2.1 4 _ rfl; have f0 := I7.2.2 0; have f1 := I7.2.2 1; have f2 := I7.2.2 2; have f3 := I7.2.2 3; have f4 := I7.2.2 4; have hz := I7.1; have S7 := K9.out _ K7; have S10 := K10.out _ K7; have Q7 := Q10.out _ K7; have n0 := Q7.2.1 0 _ rfl; have n1 := Q7.2.1 1 _ rfl; have n2 := Q7.2.1 2 _ rfl; have n3 := Q7.2.1 3 _ rfl; have n4 := Q7.2.1 4 _ rfl; have g0 := Q7.2.2 0; have g1 := Q7.2.2 1; have g2 := Q7.2.2 2; have g3 := Q7.2.2 3; have g4 := Q7.2.2 4; have nz := Q7.1; simp only [Ch.enc, World.setCells, Nat.zero_add, Nat.reduceAdd] at n0 n1 n2 n3 n4 g0 g1 g2 g3 g4 nz) | ((with_reducible refine (dAmongY D6 hm9 hcs hal ob2 o1 hn9).mono ?_); rintro e w7 ⟨z, rfl, -, D8, l7⟩; have K7 := K6.next (below_alloc _ _) l7; have I7 := hcI.lb K7 (by omega); have m0 := I7.2.1 0 _ rfl; have m1 := I7.2.1 1 _ rfl; have m2 := I7.2.1 2 _ rfl; have m3 := I7.2.1 3 _ rfl; have m4 := I7.2.1 4 _ rfl; have f0 := I7.2.2 0; have f1 := I7.2.2 1; have f2 := I7.2.2 2; have f3 := I7.2.2 3; have f4 := I7.2.2 4; have hz := I7.1; have S7 := K9.out _ K7; have S10 := K10.out _ K7; have Q7 := Q10.out _ K7; have n0 := Q7.2.1 0 _ rfl; have n1 := Q7.2.1 1 _ rfl; have n2 := Q7.2.1 2 _ rfl; have n3 := Q7.2.1 3 _ rfl; have n4 := Q7.2.1 4 _ rfl; have g0 := Q7.2.2 0; have g1 := Q7.2.2 1; have g2 := Q7.2.2 2; have g3 := Q7.2.2 3; have g4 := Q7.2.2 4; have nz := Q7.1; simp only [Ch.enc, World.setCells, Nat.zero_add, Nat.reduceAdd] at n0 n1 n2 n3 n4 g0 g1 g2 g3 g4 nz)))
  all_goals
    go_wp2_with (fail)
    have U10 := (I7.put (Ch.enc u) rfl).far (show r ≠ r + 1 by omega) (Ch.enc v') 0
    have V10 := Q7.put (Ch.enc v') rfl
    have b10 := bset (bset (b2.trans (D8.done.mono (by omega))) (Nat.le_refl r) (Ch.enc u) 0) (Nat.le_succ r) (Ch.enc v') 0
    have o10 := ((HX.out.ou.lb K7 (Nat.lt_succ_self p)).far (g := r) (by omega) (Ch.enc u) 0).far (g := r + 1) (by omega) (Ch.enc v') 0
    have q10 := ((HX.out.ov.lb K7 (Nat.lt_succ_self p)).far (g := r) (by omega) (Ch.enc u) 0).far (g := r + 1) (by omega) (Ch.enc v') 0
    clear KS K9 K10 S7 S10 Q10 Q7 I7 n0 n1 n2 n3 n4 g0 g1 g2 g3 g4 nz m0 m1 m2 m3 m4 f0 f1 f2 f3 f4 hz
    simp only [Ch.enc, World.setCells, Nat.zero_add, Nat.reduceAdd] at U10 V10 b10 o10 q10
    have e0 := U10.2.1 0 _ rfl
    have e1 := U10.2.1 1 _ rfl
    have e2 := U10.2.1 2 _ rfl
    have e3 := U10.2.1 3 _ rfl
    have e4 := U10.2.1 4 _ rfl
    have d0 := V10.2.1 0 _ rfl
    have d1 := V10.2.1 1 _ rfl
    have d2 := V10.2.1 2 _ rfl
    have d3 := V10.2.1 3 _ rfl
    have d4 := V10.2.1 4 _ rfl
    exact bodyPost_ret (v := .tuple #[.agg #[.int .i64 u.t.id, .int .i64 u.t.time, .int .i64 u.t.x, .int .i64 u.t.y, .slice u.A u.t.lay.length u.cp], .agg #[.int .i64 v'.t.id, .int .i64 v'.t.time, .int .i64 v'.t.x, .int .i64 v'.t.y, .slice v'.A v'.t.lay.length v'.cp], .int .i64 z]) (by simp [results, Try.results51, go_sem, e0, e1, e2, e3, e4, d0, d1, d2, d3, d4]) rfl ⟨u, v', z, rfl, o10.base (b' := w.heap.size) (by omega), q10.base (b' := w.heap.size) (by omega), hr ▸ b10⟩
end Go.Proofs.Ytfmlfeokdaahmaa
