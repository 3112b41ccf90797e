/- The draw of a cast: some cast of at most ten layers; it changes the cursor alone. -/
import Derived.Test.YtfmlfeokdaahmaaDr13
import Derived.Test.YtfmlfeokdaahmaaV7
import Derived.Test.YtfmlfeokdaahmaaOut2
import Derived.Deep.CutBlock
import Derived.Deep.RegionHeld3
set_option linter.unusedVariables false
set_option linter.unusedSimpArgs false
namespace Go.Proofs.Ytfmlfeokdaahmaa
open Go.RowKit
set_option maxHeartbeats 4000000
set_option maxRecDepth 100000
def CtO (p B : Nat) (q : Cd) (m : Nat) (w0 w : World) (e : Ending) (w' : World) : Prop :=
  ∃ (t : Ct) (A : Option Addr) (c : Nat), e = .returned (.agg #[.int .i64 t.id, .int .i64 t.time, .int .i64 t.x, .int .i64 t.y, .slice A t.lay.length c]) ∧ Sl 2 Ly.enc w' A t.lay ∧ t.lay.length ≤ 10 ∧ t.lay.length ≤ c ∧ (∀ a, A = some a → w.heap.size ≤ a.block) ∧ Dr p B q m w0 w' ∧ LB p w.heap.size w w'
theorem OutS.farB {α : Type} {K base e : Nat} {enc : α → List Value} {w : World} {v : Value} {l : List α} (h : OutS K enc base e w v l) {g o : Nat} (hg : g < base) (u : Value) : OutS K enc base e (w.setCell ⟨g, o, none⟩ u) v l := by
  refine ⟨h.1, ?_⟩
  rcases h.2 with h0 | ⟨k, cap, cur, hv, hk, hh, r⟩
  · exact .inl h0
  · exact .inr ⟨k, cap, cur, hv, hk, (Below.heap_setCell w ⟨g, o, none⟩ u k (by show k ≠ g; omega)).trans hh, r⟩
theorem Bk.belowC {w w' : World} {g B : Nat} {cs : List Value} (h : Bk w g cs) (hg : g < B) (hb : Below B w w') : Bk w' g cs :=
  ⟨Nat.lt_of_lt_of_le h.1 hb.size, fun i v hv => (hb.cell (p := ⟨g, i, none⟩) hg).trans (h.2.1 i v hv), fun i => (hb.frozen (p := ⟨g, i, none⟩) hg).trans (h.2.2 i)⟩
/-- The cast that is drawn, in its block gx, its layers from block b on; the result's block r. -/
structure CtI (b gx r : Nat) (id time sx sy : Int) (l : List Ly) (A : Option Addr) (c : Nat) (w : World) : Prop where
  o : OutS 2 Ly.enc b 76 w (.slice A l.length c) l
  j : Bk w gx (Ch.enc ⟨⟨id, time, sx, sy, l⟩, A, c⟩)
  i : Bk w r (Ch.enc ⟨⟨0, 0, 0, 0, []⟩, none, 0⟩)
  c : l.length ≤ c
  z : b ≤ w.heap.size
theorem CtI.below {b gx r : Nat} {id time sx sy : Int} {l : List Ly} {A : Option Addr} {c : Nat} {w w' : World} (h : CtI b gx r id time sx sy l A c w) (hb : Below w.heap.size w w') : CtI b gx r id time sx sy l A c w' :=
  ⟨h.o.below hb, h.j.below hb, h.i.below hb, h.c, Nat.le_trans h.z hb.size⟩
theorem CtI.next {p b gx r : Nat} {id time sx sy : Int} {l : List Ly} {A : Option Addr} {c : Nat} {w w5 w' : World} (h : CtI b gx r id time sx sy l A c w) (hb : Below w.heap.size w w5) (hl : LB p w5.heap.size w5 w') (h1 : gx ≠ p) (h2 : r ≠ p) (h3 : p < b) : CtI b gx r id time sx sy l A c w' :=
  ⟨h.o.next hb hl h3, (h.j.below hb).lb hl h1, (h.i.below hb).lb hl h2, h.c, Nat.le_trans h.z (Nat.le_trans hb.size hl.size)⟩
theorem CtI.app {b gx r : Nat} {id time sx sy : Int} {l : List Ly} {A : Option Addr} {c : Nat} {w w' : World} {y : Ly} {v : Value} (h : CtI b gx r id time sx sy l A c w) (h1 : r < gx) (h2 : gx < b) (hb : Below b w w') (hO : OutS 2 Ly.enc b 76 w' v (l ++ [y])) :
    ∃ (A' : Option Addr) (c' : Nat), v = .slice A' (l.length + 1) c' ∧ CtI b gx r id time sx sy (l ++ [y]) A' c' (w'.setCell ⟨gx, 4, none⟩ v) := by
  obtain ⟨A', c', rfl, hc, _, _, _⟩ := hO.sl Ly.len
  have e : (l ++ [y]).length = l.length + 1 := by simp
  refine ⟨A', c', by rw [e], ⟨hO.farB h2 _, ?_, (h.i.belowC (by omega) hb).csetF (by omega) _, hc, by rw [World.size_setCell]; exact Nat.le_trans h.z hb.size⟩⟩
  have := (h.j.belowC h2 hb).cset 4 (.slice A' (l ++ [y]).length c') (by simp [Ch.enc])
  simpa [Ch.enc] using this
/-- As wp_app, and where the new slice lies. -/
theorem wp_appK {P : Program} {α : Type} {K base e bytes : Nat} {enc : α → List Value} (hK : ∀ x, (enc x).length = K) (h1 : ∀ x, ∀ u ∈ enc x, u.oneCell' = true) (hK0 : 0 < K) (hb16 : bytes ≤ 128)
    {ops : Array Oper} {rest : List Oper} {o : Oper} {a : Act} {Q : Exit → Act → World → Prop} (w : World) (hgd : o.guard = none) (s x : Operand) (t : TypeId)
    (ho : o.op = .call { callee := .builtin .append, args := #[s, x], argTypes := #[t, t] }) {z : Value}
    (ht : P.underlying t = some (.slice e)) (hinfo : (P.info? e).map (fun i => (i.zero, i.size, i.bytes)) = some (some z, K, bytes)) (hzs : z.cells.size = K)
    (v : Value) (l : List α) (hs : a.eval s = v) (hown : OutS K enc base e w v l) (y : α) (g : Nat) (hx : a.eval x = .slice (some ⟨g, 0, none⟩) 1 1) (hy : ∀ j u, (enc y)[j]? = some u → w.cell? ⟨g, j, none⟩ = some u)
    (hn : l.length ≤ 1048576) (hbase : base ≤ w.heap.size)
    (h : ∀ v' w', OutS K enc base e w' v' (l ++ [y]) → w.grownBy w' v.ownBlock → Below base w w' → (v'.ownBlock = v.ownBlock ∨ v'.ownBlock = some w.heap.size) → wpList P ops Q rest (a.put o.dst v') w') : wpList P ops Q (o :: rest) a w := by
  obtain ⟨i, hi, hz, hsz, hby⟩ := info_parts hinfo
  refine wpList_append_own_at w hgd s x t ho base e i z K bytes ht hi hz hsz hby hzs hK0 v l.length (l.flatMap enc) hs hown ⟨g, 0, none⟩ 1 1 (enc y) hx (by rw [hK]; omega) (fun j u hu => ?_) (h1 y) (by simp only [maxLen]; omega) ?_ hbase ?_
  · rw [Addr.add_lit, Nat.zero_add]; exact hy j u hu
  · have : (l.length + 1) * bytes ≤ 1048577 * 128 := Nat.mul_le_mul (by omega) hb16
    omega
  · intro v' w' hown' hgrow _ hob
    refine h v' w' ?_ hgrow ((Below.refl base w).grown hgrow hbase fun k hk => (hown.lt k hk).1) hob
    unfold OutS
    rw [List.length_append, List.flatMap_append]
    simpa using hown'
theorem OutS.farN {α : Type} {K base e : Nat} {enc : α → List Value} {w : World} {v : Value} {l : List α} (h : OutS K enc base e w v l) {g o : Nat} (hg : v.ownBlock ≠ some g) (u : Value) : OutS K enc base e (w.setCell ⟨g, o, none⟩ u) v l := by
  refine ⟨h.1, ?_⟩
  rcases h.2 with h0 | ⟨k, cap, cur, hv, hk, hh, r⟩
  · exact .inl h0
  · refine .inr ⟨k, cap, cur, hv, hk, (Below.heap_setCell w ⟨g, o, none⟩ u k (fun e => hg ?_)).trans hh, r⟩
    rw [hv]; exact congrArg some e
/-- The same with the chosen layer in its block gy. -/
structure CtY (b gx r gy : Nat) (id time sx sy : Int) (l : List Ly) (A : Option Addr) (c : Nat) (ya yb : Int) (w : World) : Prop where
  i : CtI b gx r id time sx sy l A c w
  y : Bk w gy [.int .i64 ya, .int .i64 yb]
  f : (Value.slice A l.length c).ownBlock ≠ some gy
theorem CtY.next {p b gx r gy : Nat} {id time sx sy : Int} {l : List Ly} {A : Option Addr} {c : Nat} {ya yb : Int} {w w5 w' : World} (h : CtY b gx r gy id time sx sy l A c ya yb w) (hb : Below w.heap.size w w5) (hl : LB p w5.heap.size w5 w') (h0 : p < r) (h1 : r < gx) (h2 : gx < b) (h3 : b ≤ gy) : CtY b gx r gy id time sx sy l A c ya yb w' :=
  ⟨h.i.next hb hl (by omega) (by omega) (by omega), (h.y.below hb).lb hl (by omega), h.f⟩
theorem CtY.new {b gx r : Nat} {id time sx sy : Int} {l : List Ly} {A : Option Addr} {c : Nat} {ya yb : Int} {w : World} (h : CtI b gx r id time sx sy l A c w) (t : TypeId) : CtY b gx r w.heap.size id time sx sy l A c ya yb (w.alloc (.cells #[.int .i64 ya, .int .i64 yb] t)) :=
  ⟨h.below (below_alloc _ _), Bk.new w [.int .i64 ya, .int .i64 yb] t, fun e => by have := (h.o.lt _ e).2; omega⟩
theorem CtY.setId {b gx r gy : Nat} {id time sx sy : Int} {l : List Ly} {A : Option Addr} {c : Nat} {ya yb : Int} {w : World} (h : CtY b gx r gy id time sx sy l A c ya yb w) (h1 : r < gx) (h2 : gx < b) (h3 : b ≤ gy) (z : Int) : CtY b gx r gy z time sx sy l A c ya yb (w.setCell ⟨gx, 0, none⟩ (.int .i64 z)) :=
  ⟨⟨h.i.o.farB h2 _, by simpa [Ch.enc] using h.i.j.cset 0 (.int .i64 z) (by simp [Ch.enc]), h.i.i.csetF (by omega) _, h.i.c, by rw [World.size_setCell]; exact h.i.z⟩, h.y.csetF (by omega) _, h.f⟩
theorem CtY.setTime {b gx r gy : Nat} {id time sx sy : Int} {l : List Ly} {A : Option Addr} {c : Nat} {ya yb : Int} {w : World} (h : CtY b gx r gy id time sx sy l A c ya yb w) (h1 : r < gx) (h2 : gx < b) (h3 : b ≤ gy) (z : Int) : CtY b gx r gy id z sx sy l A c ya yb (w.setCell ⟨gx, 1, none⟩ (.int .i64 z)) :=
  ⟨⟨h.i.o.farB h2 _, by simpa [Ch.enc] using h.i.j.cset 1 (.int .i64 z) (by simp [Ch.enc]), h.i.i.csetF (by omega) _, h.i.c, by rw [World.size_setCell]; exact h.i.z⟩, h.y.csetF (by omega) _, h.f⟩
theorem CtY.setA {b gx r gy : Nat} {id time sx sy : Int} {l : List Ly} {A : Option Addr} {c : Nat} {ya yb : Int} {w : World} (h : CtY b gx r gy id time sx sy l A c ya yb w) (h1 : r < gx) (h2 : gx < b) (h3 : b ≤ gy) (z : Int) : CtY b gx r gy id time sx sy l A c z yb (w.setCell ⟨gy, 0, none⟩ (.int .i64 z)) :=
  ⟨⟨h.i.o.farN h.f _, h.i.j.csetF (by omega) _, h.i.i.csetF (by omega) _, h.i.c, by rw [World.size_setCell]; exact h.i.z⟩, by simpa using h.y.cset 0 (.int .i64 z) (by simp), h.f⟩
theorem CtY.setB {b gx r gy : Nat} {id time sx sy : Int} {l : List Ly} {A : Option Addr} {c : Nat} {ya yb : Int} {w : World} (h : CtY b gx r gy id time sx sy l A c ya yb w) (h1 : r < gx) (h2 : gx < b) (h3 : b ≤ gy) (z : Int) : CtY b gx r gy id time sx sy l A c ya z (w.setCell ⟨gy, 1, none⟩ (.int .i64 z)) :=
  ⟨⟨h.i.o.farN h.f _, h.i.j.csetF (by omega) _, h.i.i.csetF (by omega) _, h.i.c, by rw [World.size_setCell]; exact h.i.z⟩, by simpa using h.y.cset 1 (.int .i64 z) (by simp), h.f⟩
theorem CtY.app {b gx r gy : Nat} {id time sx sy : Int} {l : List Ly} {A : Option Addr} {c : Nat} {ya yb : Int} {w w5 w' : World} {y : Ly} {v : Value} (h : CtY b gx r gy id time sx sy l A c ya yb w) (h1 : r < gx) (h2 : gx < b) (h3 : b ≤ gy) (h5 : Below w.heap.size w w5) (hg : w5.grownBy w' (Value.slice A l.length c).ownBlock) (hb : Below b w5 w') (hO : OutS 2 Ly.enc b 76 w' v (l ++ [y])) (ho : v.ownBlock = (Value.slice A l.length c).ownBlock ∨ v.ownBlock = some w5.heap.size) :
    ∃ (A' : Option Addr) (c' : Nat), v = .slice A' (l.length + 1) c' ∧ CtY b gx r gy id time sx sy (l ++ [y]) A' c' ya yb (w'.setCell ⟨gx, 4, none⟩ v) := by
  obtain ⟨A', c', e1, X⟩ := (h.i.below h5).app h1 h2 hb hO
  have hy := h.y.1
  have hz := h5.size
  refine ⟨A', c', e1, X, ((h.y.below h5).grown hg h.f).csetF (by omega) _, ?_⟩
  rw [List.length_append]
  show (Value.slice A' (l.length + 1) c').ownBlock ≠ some gy
  rw [← e1]
  rcases ho with ho | ho
  · rw [ho]; exact h.f
  · rw [ho]; intro e; injection e with e; omega
theorem dCast {p B : Nat} {q : Cd} {m : Nat} {w0 w5 w : World} (h : Dr p B q m w0 w5) (hg : Below w5.heap.size w5 w) (hm : m ≤ 700000000) (id time : Int) :
    Calls Try.prog 82 #[.pointer (some ⟨p, 0, none⟩), .int .i64 id, .int .i64 time] w (CtO p B q (m + 100) w0 w) := by
  have h := h.grown hg
  have hp := h.lt
  clear hg
  go_enter Try.func82, Try.ntmps82
  go_upto_region 1 with (fail)
  generalize hr : w.heap.size = r
  generalize hW : World.alloc w _ = W1
  have I1 : Bk W1 r (Ch.enc ⟨⟨0, 0, 0, 0, []⟩, none, 0⟩) := by rw [← hW, ← hr]; exact Bk.new _ _ _
  have b1 : Below r w W1 := by rw [← hW, ← hr]; exact below_alloc _ _
  clear hW
  go_wp2_with (fail)
  refine (dSpot h (hr ▸ b1) (by omega)).mono ?_; rintro e w2 ⟨sx, sy, rfl, D2, l2⟩
  have hz1 : r < W1.heap.size := I1.1
  have I2 := I1.lb l2 (by omega)
  have L2 := LB.next (LB.of (p := p) (Below.refl _ _)) (hr ▸ b1) l2
  have hz2 := l2.size
  have hp2 := D2.lt
  clear h I1 b1 l2
  go_upto_region 2 with (fail)
  generalize hgx : w2.heap.size = gx
  generalize hW : World.alloc w2 _ = W3
  have J3 : Bk W3 gx (Ch.enc ⟨⟨id, time, sx, sy, []⟩, none, 0⟩) := by rw [← hW, ← hgx]; exact Bk.new _ _ _
  have b3 : Below gx w2 W3 := by rw [← hW, ← hgx]; exact below_alloc _ _
  clear hW
  have I3 := I2.below (hgx.symm ▸ b3)
  have D3 := D2.grown (hgx.symm ▸ b3)
  have L3 := L2.trans (LB.of (Below.mono (hgx.symm ▸ b3) L2.size))
  have hJ := J3.1
  have hpr : p < r := by omega
  have hrg : r < gx := by omega
  have C3 : CtI W3.heap.size gx r id time sx sy [] none 0 W3 := ⟨OutS.nil, J3, I3, Nat.le_refl _, Nat.le_refl _⟩
  clear I2 D2 L2 b3 I3 J3 hz1 hz2 hp2 hgx
  have hb0 : w.heap.size ≤ W3.heap.size := L3.size
  generalize W3.heap.size = b at *
  go_wp2_with (fail)
  refine (dPick D3 (Below.refl _ _) (by omega) 5 (by omega)).mono ?_; rintro e w4 ⟨n, rfl, hn, D4, l4⟩
  have wr1 : IntKind.i64.wrap (1 + n) = 1 + n := IntWalk.i64_in _ (by omega)
  have C4 := C3.next (Below.refl _ _) l4 (by omega) (by omega) (by omega)
  have L4 := L3.next (Below.refl _ _) l4
  clear C3 D3 L3 l4 h
  go_wp2_with (fail)
  go_loopw [8, 9] (fun dv nv wr => ∃ (d nn : Int) (l : List Ly) (A : Option Addr) (c : Nat), dv = .int .i64 d ∧ nv = .int .i64 nn ∧ 0 ≤ nn ∧ (l.length : Int) + nn = 1 + n ∧ Hid (CtI b gx r id time sx sy l A c wr) ∧ Dr p B q (m + 30 + 4 * l.length) w0 wr ∧ LB p w.heap.size w wr) (fun _ nv _ => (intOf nv).toNat)
  case atStart => exact ⟨0, 1 + n, [], none, 0, rfl, rfl, by omega, by simp, Lib.hid C4, D4.mono (by simp), L4⟩
  case round =>
    clear C4 D4 L4 wr1
    obtain ⟨d, nn, l, A, c, rfl, rfl, hn0, hl, HC, D, L⟩ := hrel
    by_cases hlt : 0 < nn
    · go_upto_region 6 with (fail)
      go_cut [] from 20 to 38 (fun wx => ∃ (y : Ly) (A' : Option Addr) (c' : Nat), Hid (CtI b gx r id time sx sy (l ++ [y]) A' c' wx) ∧ Dr p B q (m + 32 + 4 * l.length) w0 wx ∧ LB p w.heap.size w wx)
      case first =>
        have C := HC.out
        have hl6 : l.length ≤ 6 := by omega
        have hwb : b ≤ wr.heap.size := C.z
        have j4 : wr.cell? ⟨gx, 4, none⟩ = some (.slice A l.length c) := C.j.2.1 4 _ rfl
        have hgz := C.j.1
        have KS := Lib.hid (show ∀ w', LB p wr.heap.size wr w' → w'.cell? ⟨gx, 4, none⟩ = some (.slice A l.length c) from fun (w' : World) (hl : LB p wr.heap.size wr w') => (hl.cell C.j.1 (by omega) 4).trans j4)
        go_region_law (first
            | (go_simp; go_at_call 83; refine (dAmongD D (Below.refl _ _) (by omega) rfl (by decide) (by decide) (by simp) (by simp [isI])).mono ?_; rintro e w6 ⟨z3, rfl, -, D6, l6⟩; have K6 := LB.next (LB.of (Below.refl _ _)) (below_alloc _ _).drew l6; have C6 := C.next (below_alloc _ _).drew l6 (by omega) (by omega) (by omega); have j6 := KS.out _ K6; have z6 := C6.j.1; have HC6 := Lib.hid C6; clear C6 l6)
            | (refine step_app (K := 2) (bytes := 16) (enc := Ly.enc) Ly.len Ly.one (by decide) (by decide) _ rfl (.tmp 25) (.tmp 31) _ rfl Try.underlying30 infoLy rfl _ l rfl (HC6.out.o.below (by go_grown)) ⟨d, z3⟩ _ rfl (by intro j u hu; exact app_cell (by simp) hu) (by omega) (by have := K6.size; simp; omega) ?_; intro v8 W8 hO8 hg8 hb8; have J8 := (HC6.out.below (by go_grown)).j.belowC hJ hb8; have X8 := (HC6.out.below (by go_grown)).app hrg hJ hb8 hO8; have b8 : Below b w6 W8 := (Below.mono (by go_grown) HC6.out.z).trans hb8; obtain ⟨A8, c8, rfl, Y8⟩ := X8; have Y8 := Lib.hid Y8; have S8 : W8.cell? ⟨gx, 4, none⟩ = some (.slice A l.length c) := J8.2.1 4 _ rfl; have f8 := J8.2.2 4; have z8 := J8.1; clear J8))
        all_goals
          go_wp2_with (fail)
          go_meet
          case rel => exact ⟨⟨d, z3⟩, A8, c8, Y8, ((D6.belowB b8 (by omega)).set (g := gx) (by omega) _).mono (by omega), ((L.next (Below.refl _ _) K6).trans (LB.of (b8.mono hb0))).setC (by omega) _⟩
      case rest =>
        clear HC D L
        obtain ⟨y, A6, c6, HC, D, L⟩ := hcut
        go_wp2_with (fail)
        refine (dAmongN D (Below.refl _ _) (by omega) rfl (by decide) (by decide) (by simp) (by simp [isI])).mono ?_; rintro e w7 ⟨z, rfl, -, D7, l7⟩
        have C7 := Lib.hid (HC.out.next (below_alloc _ _) l7 (by omega) (by omega) (by omega))
        have L7 := L.next (below_alloc _ _) l7
        clear HC D L l7
        go_wp2_with (fail)
        go_roundw
        case rel => exact ⟨_, nn - 1, l ++ [y], A6, c6, rfl, by go_num, by omega, by simp; omega, C7, D7.mono (by simp; omega), L7⟩
        case measure => simp [intOf]; omega
    · have C := HC.out
      have j4 : wr.cell? ⟨gx, 4, none⟩ = some (.slice A l.length c) := C.j.2.1 4 _ rfl
      have hgz := C.j.1
      go_wp2_with (fail)
      refine (dPick D (Below.refl _ _) (by omega) _ (by omega)).mono ?_; rintro e w3 ⟨k, rfl, hk, D3, l3⟩
      have C3 := C.next (Below.refl _ _) l3 (by omega) (by omega) (by omega)
      have L3 := L.next (Below.refl _ _) l3
      clear j4 hgz C HC D L l3
      have hk0 : 0 ≤ k := hk.1
      have hk1 : k < (l.length : Int) := by omega
      obtain ⟨k, rfl⟩ : ∃ kn : Nat, k = (kn : Int) := ⟨k.toNat, by omega⟩
      have hk2 : k < l.length := by omega
      have j4 : w3.cell? ⟨gx, 4, none⟩ = some (.slice A l.length c) := C3.j.2.1 4 _ rfl
      have hgz := C3.j.1
      obtain ⟨A0, c0, e0, _, S0, _⟩ := C3.o.sl Ly.len
      injection e0 with e0 _ ec
      subst e0 ec
      obtain ⟨bl, off, rfl⟩ := S0.addr (by omega)
      obtain ⟨hbl, d0, d1⟩ := Ly.get S0 hk2
      go_upto_region 10 with (fail)
      have C5 := CtY.new (ya := l[k].dep) (yb := l[k].spd) C3 76
      have D5 := D3.grown (below_alloc w3 (.cells #[.int .i64 l[k].dep, .int .i64 l[k].spd] 76))
      have L5 := L3.grown (below_alloc w3 (.cells #[.int .i64 l[k].dep, .int .i64 l[k].spd] 76))
      have hby : b ≤ w3.heap.size := C3.z
      generalize World.alloc w3 _ = W5 at *
      generalize w3.heap.size = gy at *
      clear C3 D3 L3 j4 hgz d0 d1 S0 hbl hk hk0 hk1
      generalize l[k].dep = ya at *
      generalize l[k].spd = yb at *
      generalize some (⟨bl, off, none⟩ : Addr) = A at *
      go_wp2_with (fail)
      refine (dPick D5 (Below.refl _ _) (by omega) _ (by omega)).mono ?_; rintro e w6 ⟨z, rfl, hz, D6, l6⟩
      have C6 := C5.next (Below.refl _ _) l6 hpr hrg hJ hby
      have L6 := L5.next (Below.refl _ _) l6
      clear C5 D5 L5 l6 hz
      go_upto_block 2 with (fail)
      go_cut [8] from 12 (fun _ wx => ∃ (id' time' : Int) (l' : List Ly) (A' : Option Addr) (c' : Nat) (ya' yb' : Int), Hid (CtY b gx r gy id' time' sx sy l' A' c' ya' yb' wx) ∧ k < l'.length ∧ l'.length ≤ 10 ∧ Dr p B q (m + 98) w0 wx ∧ LB p w.heap.size w wx)
      case first =>
        by_cases q0 : z = 0
        · subst q0
          go_wp2_with (fail)
          refine (dAmongN D6 (Below.refl _ _) (by omega) rfl (by decide) (by decide) (by simp) (by simp [isI])).mono ?_; rintro e w7 ⟨v7, rfl, -, D7, l7⟩
          have C7 := C6.next (below_alloc _ _) l7 hpr hrg hJ hby
          have L7 := L6.next (below_alloc _ _) l7
          clear C6 D6 L6 l7
          have m0 := C7.i.j.2.1 0 _ rfl
          have f0 := C7.i.j.2.2 0
          have z0 := C7.i.j.1
          go_wp2_with (fail)
          go_meet
          case rel => exact ⟨_, _, l, A, c, _, _, Lib.hid (C7.setId hrg hJ hby v7), hk2, by omega, (D7.set (by omega) _).mono (by omega), L7.setC (by omega) _⟩
        · by_cases q1 : z = 1
          · subst q1
            go_wp2_with (fail)
            refine (dAmongN D6 (Below.refl _ _) (by omega) rfl (by decide) (by decide) (by simp) (by simp [isI])).mono ?_; rintro e w7 ⟨v7, rfl, -, D7, l7⟩
            have C7 := C6.next (below_alloc _ _) l7 hpr hrg hJ hby
            have L7 := L6.next (below_alloc _ _) l7
            clear C6 D6 L6 l7
            have m0 := C7.i.j.2.1 1 _ rfl
            have f0 := C7.i.j.2.2 1
            have z0 := C7.i.j.1
            go_wp2_with (fail)
            go_meet
            case rel => exact ⟨_, _, l, A, c, _, _, Lib.hid (C7.setTime hrg hJ hby v7), hk2, by omega, (D7.set (by omega) _).mono (by omega), L7.setC (by omega) _⟩
          · by_cases q2 : z = 2
            · subst q2
              go_wp2_with (fail)
              refine (dAmongN D6 (Below.refl _ _) (by omega) rfl (by decide) (by decide) (by simp) (by simp [isI])).mono ?_; rintro e w7 ⟨v7, rfl, -, D7, l7⟩
              have C7 := C6.next (below_alloc _ _) l7 hpr hrg hJ hby
              have L7 := L6.next (below_alloc _ _) l7
              clear C6 D6 L6 l7
              have m0 := C7.y.2.1 0 _ rfl
              have f0 := C7.y.2.2 0
              have z0 := C7.y.1
              go_wp2_with (fail)
              go_meet
              case rel => exact ⟨_, _, l, A, c, _, _, Lib.hid (C7.setA hrg hJ hby v7), hk2, by omega, (D7.set (by omega) _).mono (by omega), L7.setC (by omega) _⟩
            · by_cases q3 : z = 3
              · subst q3
                go_wp2_with (fail)
                refine (dAmongN D6 (Below.refl _ _) (by omega) rfl (by decide) (by decide) (by simp) (by simp [isI])).mono ?_; rintro e w7 ⟨v7, rfl, -, D7, l7⟩
                have C7 := C6.next (below_alloc _ _) l7 hpr hrg hJ hby
                have L7 := L6.next (below_alloc _ _) l7
                clear C6 D6 L6 l7
                have m0 := C7.y.2.1 1 _ rfl
                have f0 := C7.y.2.2 1
                have z0 := C7.y.1
                go_wp2_with (fail)
                go_meet
                case rel => exact ⟨_, _, l, A, c, _, _, Lib.hid (C7.setB hrg hJ hby v7), hk2, by omega, (D7.set (by omega) _).mono (by omega), L7.setC (by omega) _⟩
              · by_cases q4 : z = 4
                · subst q4
                  go_wp2_with (fail)
                  go_loopw [8] (fun dv wr => ∃ (d : Int) (l' : List Ly) (A' : Option Addr) (c' : Nat), dv = .int .i64 d ∧ Hid (CtY b gx r gy id time sx sy l' A' c' ya yb wr) ∧ k < l'.length ∧ l'.length ≤ 9 ∧ Dr p B q (m + 60 + 2 * l'.length) w0 wr ∧ LB p w.heap.size w wr) (fun _ wr => 9 - ((wr.cell? ⟨gx, 4, none⟩).map lenV).getD 0)
                  case atStart => exact ⟨d, l, A, c, rfl, Lib.hid C6, hk2, by omega, D6.mono (by omega), L6⟩
                  case round =>
                    clear C6 D6 L6 hk2 hl hlt hn
                    obtain ⟨d, l', A', c', rfl, HC, hk2, hl9, D, L⟩ := hrel
                    have C := HC.out
                    have j4 : wr.cell? ⟨gx, 4, none⟩ = some (.slice A' l'.length c') := C.i.j.2.1 4 _ rfl
                    have hgz := C.i.j.1
                    have KS := Lib.hid (show ∀ w', LB p wr.heap.size wr w' → w'.cell? ⟨gx, 4, none⟩ = some (.slice A' l'.length c') from fun (w' : World) (hl : LB p wr.heap.size wr w') => (hl.cell C.i.j.1 (by omega) 4).trans j4)
                    clear C
                    go_upto_region 20 with (fail)
                    go_region_held3 (fun w' => w'.cell? ⟨gx, 4, none⟩ = some (.slice A' l'.length c'))
                      (first | with_reducible assumption | with_reducible exact KS.out _ (LB.of (Below.refl _ _).drew) | with_reducible exact KS.out _ K6)
                      (first | (go_at_call 84; refine (dPick D (Below.refl _ _).drew (by omega) 2 (by omega)).mono ?_; rintro e w6 ⟨r3, rfl, hr3, D6, l6⟩; have K6 := LB.next (LB.of (Below.refl _ _)) (Below.refl _ _).drew l6; have y1 : IntKind.i64.wrap (8 + r3) = 8 + r3 := IntWalk.i64_in _ (by omega)))
                    all_goals
                      have C6 := HC.out.next (Below.refl _ _).drew l6 hpr hrg hJ hby
                      have L6 := L.next (Below.refl _ _).drew l6
                      have j6 : w6.cell? ⟨gx, 4, none⟩ = some (.slice A' l'.length c') := C6.i.j.2.1 4 _ rfl
                      have hgz6 := C6.i.j.1
                      have hz6 := C6.i.z
                      clear HC D L l6 K6 KS hgz
                      by_cases hlt2 : (l'.length : Int) < 8 + r3
                      · go_wp2_with (at_builtin; refine wp_appK (K := 2) (bytes := 16) (enc := Ly.enc) Ly.len Ly.one (by decide) (by decide) _ rfl (.tmp 85) (.tmp 88) _ rfl Try.underlying30 infoLy rfl (.slice A' l'.length c') l' rfl (C6.i.o.below (by go_grown)) ⟨d, 15000⟩ _ rfl (by intro j u hu; exact app_cell (by simp) hu) (by omega) (by simp; omega) ?_; intro v8 W8 hO8 hg8 hb8 ho8; have J8 := (C6.i.below (by go_grown)).j.belowC hJ hb8; have X8 := C6.app hrg hJ hby (by go_grown) hg8 hb8 hO8 ho8; have b8 : Below b w6 W8 := (Below.mono (by go_grown) hz6).trans hb8; obtain ⟨A8, c8, rfl, Y8⟩ := X8; have Y8 := Lib.hid Y8; have S8 : W8.cell? ⟨gx, 4, none⟩ = some (.slice A' l'.length c') := J8.2.1 4 _ rfl; have f8 := J8.2.2 4; have z8 := J8.1; clear J8)
                        go_roundw
                        case rel => exact ⟨_, l' ++ [⟨d, 15000⟩], A8, c8, rfl, Y8, by simp; omega, by simp; omega, ((D6.belowB b8 (by omega)).set (g := gx) (by omega) _).mono (by simp; omega), (L6.trans (LB.of (b8.mono hb0))).setC (by omega) _⟩
                        case measure => rw [Y8.out.i.j.2.1 4 _ rfl, j4]; simp [lenV]; omega
                      · go_wp2_with (fail)
                        go_meet
                        case rel => exact ⟨_, _, l', A', c', _, _, Lib.hid C6, hk2, by omega, D6.mono (by omega), L6⟩
                · by_cases q5 : z = 5
                  · subst q5
                    obtain ⟨A0, c0, e0, hcc, S0, O0, B0⟩ := C6.i.o.sl Ly.len
                    injection e0 with e0 _ ec
                    subst e0 ec
                    obtain ⟨g, rfl, -⟩ := O0 (by omega)
                    have hbg : b ≤ g := B0 _ rfl
                    have j4 := C6.i.j.2.1 4 _ rfl
                    have f4 := C6.i.j.2.2 4
                    have hgz := C6.i.j.1
                    go_upto_region 25 with (fail)
                    have J := C6.i.j.cset 4 (.slice (some ⟨g, 0, none⟩) 0 c) (by simp [Ch.enc])
                    have I := C6.i.i.csetF (o := 4) (show r ≠ gx by omega) (.slice (some ⟨g, 0, none⟩) 0 c)
                    have D := (D6.set (g := gx) (o := 4) (by omega) (.slice (some ⟨g, 0, none⟩) 0 c)).mono (show _ ≤ m + 98 by omega)
                    have L := L6.setC (g := gx) (o := 4) (by omega) (.slice (some ⟨g, 0, none⟩) 0 c)
                    rw [show (Ch.enc ⟨⟨id, time, sx, sy, l⟩, some ⟨g, 0, none⟩, c⟩).set 4 (.slice (some ⟨g, 0, none⟩) 0 c) = Ch.enc ⟨⟨id, time, sx, sy, []⟩, some ⟨g, 0, none⟩, c⟩ from by simp [Ch.enc]] at J
                    clear C6 D6 L6 j4 f4 hgz S0 O0 hl
                    have hT : ([] : List Ly).length ≤ 10 := by simp
                    have hTc : ([] : List Ly).length ≤ c := by simp
                    have hAr : ∀ a, some (⟨g, 0, none⟩ : Addr) = some a → a.block ≠ r := fun a ha => by injection ha with ha; subst ha; show g ≠ r; omega
                    have hAw : ∀ a, some (⟨g, 0, none⟩ : Addr) = some a → w.heap.size ≤ a.block := fun a ha => Nat.le_trans hb0 (B0 a ha)
                    generalize World.setCell w6 _ _ = W9 at *
                    have S : Sl 2 Ly.enc W9 (some ⟨g, 0, none⟩) ([] : List Ly) := fun h => absurd h (by simp)
                    have j0 := J.2.1 0 _ rfl
                    have j1 := J.2.1 1 _ rfl
                    have j2 := J.2.1 2 _ rfl
                    have j3 := J.2.1 3 _ rfl
                    have j4 := J.2.1 4 _ rfl
                    have i0 := I.2.1 0 _ rfl
                    have i1 := I.2.1 1 _ rfl
                    have i2 := I.2.1 2 _ rfl
                    have i3 := I.2.1 3 _ rfl
                    have i4 := I.2.1 4 _ rfl
                    have f0 := I.2.2 0
                    have f1 := I.2.2 1
                    have f2 := I.2.2 2
                    have f3 := I.2.2 3
                    have f4 := I.2.2 4
                    have hz := I.1
                    have hzg := J.1
                    go_wp2_with (fail)
                    have I9 := I.put (Ch.enc ⟨⟨id, time, sx, sy, []⟩, (some ⟨g, 0, none⟩), c⟩) rfl
                    have D9 := D.sets (g := r) hpr (Ch.enc ⟨⟨id, time, sx, sy, []⟩, (some ⟨g, 0, none⟩), c⟩) 0
                    have L9 := L.sets (g := r) (by omega) (Ch.enc ⟨⟨id, time, sx, sy, []⟩, (some ⟨g, 0, none⟩), c⟩) 0
                    have S9 := S.far (g := r) hAr (Ch.enc ⟨⟨id, time, sx, sy, []⟩, (some ⟨g, 0, none⟩), c⟩) 0
                    simp only [Ch.enc, World.setCells, Nat.zero_add, Nat.reduceAdd, List.length_nil] at I9 D9 L9 S9
                    have e0 := I9.2.1 0 _ rfl
                    have e1 := I9.2.1 1 _ rfl
                    have e2 := I9.2.1 2 _ rfl
                    have e3 := I9.2.1 3 _ rfl
                    have e4 := I9.2.1 4 _ rfl
                    exact bodyPost_ret (v := .agg #[.int .i64 (⟨id, time, sx, sy, []⟩ : Ct).id, .int .i64 (⟨id, time, sx, sy, []⟩ : Ct).time, .int .i64 (⟨id, time, sx, sy, []⟩ : Ct).x, .int .i64 (⟨id, time, sx, sy, []⟩ : Ct).y, .slice (some ⟨g, 0, none⟩) (⟨id, time, sx, sy, []⟩ : Ct).lay.length c]) (by simp [results, Try.results82, go_sem, e0, e1, e2, e3, e4]) rfl ⟨⟨id, time, sx, sy, []⟩, (some ⟨g, 0, none⟩), c, rfl, S9, hT, hTc, hAw, D9.mono (by omega), L9⟩
                  · go_wp2_with (fail)
                    go_meet
                    case rel => exact ⟨_, _, l, A, c, _, _, Lib.hid C6, hk2, by omega, D6.mono (by omega), L6⟩
      case rest =>
      clear C6 D6 L6 hk2 hl hn0 hlt hn
      obtain ⟨id', time', l', A', c', ya', yb', HC, hk2, hl10, D, L⟩ := hcut

      have C := HC.out
      obtain ⟨A0, c0, e0, hcc, S0, O0, B0⟩ := C.i.o.sl Ly.len
      injection e0 with e0 _ ec
      subst e0 ec
      obtain ⟨g, rfl, hAr⟩ := O0 (by omega)
      have hbg : b ≤ g := B0 _ rfl
      have j4 : wc.cell? ⟨gx, 4, none⟩ = some (.slice (some ⟨g, 0, none⟩) l'.length c') := C.i.j.2.1 4 _ rfl
      have hgz := C.i.j.1
      have y0 := C.y.2.1 0 _ rfl
      have y1 := C.y.2.1 1 _ rfl
      have hyz := C.y.1
      obtain ⟨v0, m0⟩ := hAr.2.1 (k * 2) (by omega)
      obtain ⟨v1, m1⟩ := hAr.2.1 (k * 2 + 1) (by omega)
      have f0 := hAr.2.2 (k * 2)
      have f1 := hAr.2.2 (k * 2 + 1)
      have hzA := hAr.1
      have u1 : (0 : Int) ≤ (k : Int) := by omega
      have u2 : (k : Int) < (l'.length : Int) := by omega
      go_upto_region 27 with (fail)
      have S := Sl.set (k := k) (⟨ya', yb'⟩ : Ly) S0 hAr hk2 Ly.len
      have J := C.i.j.far (show gx ≠ g by omega) (Ly.enc ⟨ya', yb'⟩) (k * 2)
      have I := C.i.i.far (show r ≠ g by omega) (Ly.enc ⟨ya', yb'⟩) (k * 2)
      have D := D.sets (g := g) (by omega) (Ly.enc ⟨ya', yb'⟩) (k * 2)
      have L := L.sets (g := g) (by omega) (Ly.enc ⟨ya', yb'⟩) (k * 2)
      simp only [Ly.enc, World.setCells] at S J I D L
      have hln : (l'.set k ⟨ya', yb'⟩).length = l'.length := by simp
      rw [show Ch.enc ⟨⟨id', time', sx, sy, l'⟩, some ⟨g, 0, none⟩, c'⟩ = Ch.enc ⟨⟨id', time', sx, sy, l'.set k ⟨ya', yb'⟩⟩, some ⟨g, 0, none⟩, c'⟩ from by simp [Ch.enc]] at J
      have hT : (l'.set k ⟨ya', yb'⟩).length ≤ 10 := by omega
      have hTc : (l'.set k ⟨ya', yb'⟩).length ≤ c' := by omega
      clear C HC j4 hgz y0 y1 hyz m0 m1 f0 f1 hzA S0 O0 hAr u1 u2 hcc hln
      have hAr : ∀ a, some (⟨g, 0, none⟩ : Addr) = some a → a.block ≠ r := fun a ha => by injection ha with ha; subst ha; show g ≠ r; omega
      have hAw : ∀ a, some (⟨g, 0, none⟩ : Addr) = some a → w.heap.size ≤ a.block := fun a ha => Nat.le_trans hb0 (B0 a ha)
      generalize l'.set k ⟨ya', yb'⟩ = ll at *
      generalize World.setCell (World.setCell wc _ _) _ _ = W9 at *
      have j0 := J.2.1 0 _ rfl
      have j1 := J.2.1 1 _ rfl
      have j2 := J.2.1 2 _ rfl
      have j3 := J.2.1 3 _ rfl
      have j4 := J.2.1 4 _ rfl
      have i0 := I.2.1 0 _ rfl
      have i1 := I.2.1 1 _ rfl
      have i2 := I.2.1 2 _ rfl
      have i3 := I.2.1 3 _ rfl
      have i4 := I.2.1 4 _ rfl
      have f0 := I.2.2 0
      have f1 := I.2.2 1
      have f2 := I.2.2 2
      have f3 := I.2.2 3
      have f4 := I.2.2 4
      have hz := I.1
      have hzg := J.1
      go_wp2_with (fail)
      have I9 := I.put (Ch.enc ⟨⟨id', time', sx, sy, ll⟩, (some ⟨g, 0, none⟩), c'⟩) rfl
      have D9 := D.sets (g := r) hpr (Ch.enc ⟨⟨id', time', sx, sy, ll⟩, (some ⟨g, 0, none⟩), c'⟩) 0
      have L9 := L.sets (g := r) (by omega) (Ch.enc ⟨⟨id', time', sx, sy, ll⟩, (some ⟨g, 0, none⟩), c'⟩) 0
      have S9 := S.far (g := r) hAr (Ch.enc ⟨⟨id', time', sx, sy, ll⟩, (some ⟨g, 0, none⟩), c'⟩) 0
      simp only [Ch.enc, World.setCells, Nat.zero_add, Nat.reduceAdd, List.length_nil] at I9 D9 L9 S9
      have e0 := I9.2.1 0 _ rfl
      have e1 := I9.2.1 1 _ rfl
      have e2 := I9.2.1 2 _ rfl
      have e3 := I9.2.1 3 _ rfl
      have e4 := I9.2.1 4 _ rfl
      exact bodyPost_ret (v := .agg #[.int .i64 (⟨id', time', sx, sy, ll⟩ : Ct).id, .int .i64 (⟨id', time', sx, sy, ll⟩ : Ct).time, .int .i64 (⟨id', time', sx, sy, ll⟩ : Ct).x, .int .i64 (⟨id', time', sx, sy, ll⟩ : Ct).y, .slice (some ⟨g, 0, none⟩) (⟨id', time', sx, sy, ll⟩ : Ct).lay.length c']) (by simp [results, Try.results82, go_sem, e0, e1, e2, e3, e4]) rfl ⟨⟨id', time', sx, sy, ll⟩, (some ⟨g, 0, none⟩), c', rfl, S9, hT, hTc, hAw, D9.mono (by omega), L9⟩
end Go.Proofs.Ytfmlfeokdaahmaa
