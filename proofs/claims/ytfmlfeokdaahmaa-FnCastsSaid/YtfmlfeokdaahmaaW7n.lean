/- SameLayers of both texts: what it returns. At most 1048576 layers. -/
import Derived.Test.YtfmlfeokdaahmaaW7f
import Derived.Test.YtfmlfeokdaahmaaP7h
import Derived.Test.YtfmlfeokdaahmaaOut3
import Derived.Test.YtfmlfeokdaahmaaW7j
set_option linter.unusedVariables false
set_option linter.unusedSimpArgs false
namespace Go.Proofs.Ytfmlfeokdaahmaa
open Go.RowKit
set_option maxHeartbeats 16000000
set_option maxRecDepth 100000
/-- The box of a cast. -/
def bkC (w : World) (g : Nat) (t : Ct) (A : Option Addr) (c : Nat) : Prop := Bk w g [.int .i64 t.id, .int .i64 t.time, .int .i64 t.x, .int .i64 t.y, .slice A t.lay.length c]
theorem sSame (t u : Ct) (A B : Option Addr) (c d : Nat) (wi : Int) (w : World) (h : Sl 2 Ly.enc w A t.lay) (hn : t.lay.length ≤ 1048576) (h2 : Sl 2 Ly.enc w B u.lay) (hn2 : u.lay.length ≤ 1048576) :
    Calls Try.prog 22 #[.agg #[.int .i64 t.id, .int .i64 t.time, .int .i64 t.x, .int .i64 t.y, .slice A t.lay.length c], .agg #[.int .i64 u.id, .int .i64 u.time, .int .i64 u.x, .int .i64 u.y, .slice B u.lay.length d], .int .i64 wi] w fun e w' => e = .returned (.tuple #[.bool (slV t u wi), .bool (slOk t u wi)]) ∧ Below w.heap.size w w' := by
  go_enter Try.func22, Try.ntmps22
  go_wp2_with (fail)
  generalize hW : World.alloc w _ = W1
  obtain ⟨bW, kW, _⟩ := alloc_facts hW
  have eW : W1.heap.size = w.heap.size + 1 := by rw [← hW]; simp
  clear hW
  generalize hW2 : World.alloc W1 _ = W2
  obtain ⟨bW2, kW2, _⟩ := alloc_facts hW2
  clear hW2
  rw [eW] at kW2
  clear eW
  have kW := kW.below bW2
  have bW := bth bW bW2
  refine (s7One t A c _ (h.below bW) hn).mono ?_; rintro e w1 ⟨rfl, b1⟩
  have k1 := kW.below b1
  have j1 := kW2.below b1
  have b1 := bth bW b1
  clear kW kW2 bW bW2
  cases g : ctOk t with
  | false =>
    clear k1 j1
    obtain ⟨e1, e2⟩ := sl_bad (t := t) (u := u) (wi := wi) (.inl g)
    have E1 := Lib.hid e1
    have E2 := Lib.hid e2
    clear e1 e2
    go_wp2
    go_ret2
    exact ⟨ret_t2 (vb E1.out.symm) (vb E2.out.symm), b1⟩
  | true =>
    have G1 := Lib.hid g
    clear g
    have mb0 := j1.2.1 0 _ rfl
    have mb1 := j1.2.1 1 _ rfl
    have mb2 := j1.2.1 2 _ rfl
    have mb3 := j1.2.1 3 _ rfl
    have mb4 := j1.2.1 4 _ rfl
    go_wp2_with (fail)
    refine (s7One u B d _ (h2.below b1) hn2).mono ?_; rintro e w2 ⟨rfl, b2⟩
    have k2 := k1.below b2
    have j2 := j1.below b2
    have b2 := bth b1 b2
    clear k1 j1 mb0 mb1 mb2 mb3 mb4
    cases g : ctOk u with
    | false =>
      clear k2 j2
      obtain ⟨e1, e2⟩ := sl_bad (t := t) (u := u) (wi := wi) (.inr (.inl g))
      have E1 := Lib.hid e1
      have E2 := Lib.hid e2
      clear e1 e2
      go_wp2
      go_ret2
      exact ⟨ret_t2 (vb E1.out.symm) (vb E2.out.symm), b2⟩
    | true =>
      have G2 := Lib.hid g
      clear g
      cases g : inB wi 0 2000 with
      | false =>
        have G3 := Lib.hid g
        obtain ⟨e1, e2⟩ := sl_bad (t := t) (u := u) (wi := wi) (.inr (.inr g))
        have E1 := Lib.hid e1
        have E2 := Lib.hid e2
        clear e1 e2 g k2 j2
        go_wp2_with (go_at_call 66; refine (specIn _ _ _ _).mono ?_; rintro e w' ⟨rfl, rfl⟩; rw [G3.out])
        go_ret2
        exact ⟨ret_t2 (vb E1.out.symm) (vb E2.out.symm), b2⟩
      | true =>
        have G3 := Lib.hid g
        obtain ⟨e1, e2⟩ := sl_good G1.out G2.out g
        have E1 := Lib.hid e1
        have E2 := Lib.hid e2
        have hwi := inB_true.1 g
        have Q1 := ctOk_bd G1.out
        have Q2 := ctOk_bd G2.out
        have y1 := Q1.2.2.2.2.2.1
        have y2 := Q1.2.2.2.2.2.2.1
        have y3 := Q2.2.2.2.2.2.1
        have y4 := Q2.2.2.2.2.2.2.1
        have QG1 := Lib.hid Q1.2.2.2.2.2.2.2
        have QG2 := Lib.hid Q2.2.2.2.2.2.2.2
        clear e1 e2 g Q1 Q2
        have h := h.below b2
        have h2 := h2.below b2
        obtain ⟨ba, oa, rfl⟩ := h.addr (by omega)
        obtain ⟨bb, ob, rfl⟩ := h2.addr (by omega)
        have KT := Lib.hid (show ∀ W', Below w2.heap.size w2 W' → Bk W' w.heap.size [.int .i64 t.id, .int .i64 t.time, .int .i64 t.x, .int .i64 t.y, .slice (some ⟨ba, oa, none⟩) t.lay.length c] ∧ Bk W' (w.heap.size + 1) [.int .i64 u.id, .int .i64 u.time, .int .i64 u.x, .int .i64 u.y, .slice (some ⟨bb, ob, none⟩) u.lay.length d] from fun W' hw => ⟨k2.below hw, j2.below hw⟩)
        have KS := Lib.hid (show ∀ W', Below w2.heap.size w2 W' → Below w2.heap.size w2 W' ∧ W'.cell? ⟨w.heap.size, 4, none⟩ = some (.slice (some ⟨ba, oa, none⟩) t.lay.length c) ∧ W'.cell? ⟨w.heap.size + 1, 4, none⟩ = some (.slice (some ⟨bb, ob, none⟩) u.lay.length d) from fun W' hw => ⟨hw, (k2.below hw).2.1 4 _ rfl, (j2.below hw).2.1 4 _ rfl⟩)
        clear k2 j2
        go_wp2_with (go_at_call 66; refine (specIn _ _ _ _).mono ?_; rintro e w' ⟨rfl, rfl⟩; rw [G3.out])
        go_region_held3 (fun w' => Below w2.heap.size w2 w' ∧ w'.cell? ⟨w.heap.size, 4, none⟩ = some (.slice (some ⟨ba, oa, none⟩) t.lay.length c) ∧ w'.cell? ⟨w.heap.size + 1, 4, none⟩ = some (.slice (some ⟨bb, ob, none⟩) u.lay.length d))
          (first | exact KS.out _ b4 | exact KS.out _ b3 | exact KS.out _ (by go_grown))
          (first
            | (refine step_appS (K := 2) (bytes := 16) (enc := Ly.enc) Ly.len Ly.one (by decide) (by decide) _ rfl (.tmp 23) (.tmp 25) _ rfl Try.underlying30 infoLy rfl _ ([] : List Ly) rfl ((OutS.empty (Nat.le_refl _)).below (by go_grown)) t.lay ba oa _ _ rfl rfl (h.below (by go_grown)) (by omega) (by omega) (by simp) (by simp) ?_; intro v3 W3 hO3 hg3 hb3; have hO3 := Lib.hid hO3; have b3 : Below w2.heap.size w2 W3 := Below.trans (by go_grown) hb3)
            | (refine step_appS (K := 2) (bytes := 16) (enc := Ly.enc) Ly.len Ly.one (by decide) (by decide) _ rfl (.tmp 26) (.tmp 28) _ rfl Try.underlying30 infoLy rfl _ ([] ++ t.lay) rfl hO3.out u.lay bb ob _ _ rfl rfl (h2.below b3) (by omega) (by omega) (by simp; omega) b3.size ?_; intro v4 W4 hO4 hg4 hb4; obtain ⟨X, hX⟩ : ∃ X, X = [] ++ t.lay ++ u.lay := ⟨_, rfl⟩; rw [← hX] at hO4; obtain ⟨D4, c4, hv4, _, hs4, _, _⟩ := hO4.sl Ly.len; subst hv4; clear hO4 hg4; have HX := Lib.hid hX; clear hX; have HS4 := Lib.hid hs4; clear hs4; have b4 : Below w2.heap.size w2 W4 := Below.trans b3 hb4))
        have HX := Lib.hid (show X = t.lay ++ u.lay by rw [HX.out, List.nil_append])
        have hX16 : X.length ≤ 16 := by rw [HX.out]; simp; omega
        have hs4 := HS4.out
        clear hg3 hb3 hb4
        have h := h.below b4
        have h2 := h2.below b4
        have KT2 := Lib.hid (fun W' (hw : Below W4.heap.size W4 W') => KT.out W' (bth b4 hw))
        clear KT KS
        have e4 := bth b2 b4
        go_wp2
        go_loopw [9] (fun i wr => ∃ k : Nat, k ≤ X.length ∧ i = .int .i64 k ∧ Below W4.heap.size W4 wr ∧ Hid (∀ m, m < k → slAt t u wi m = true)) (fun i _ => X.length - (intOf i).toNat)
        case atStart => exact ⟨0, Nat.zero_le _, rfl, Below.refl _ _, (fun m hm => absurd hm (by omega) : ∀ m, m < 0 → slAt t u wi m = true)⟩
        case round =>
          obtain ⟨k, hk, rfl, hb, H⟩ := hrel
          by_cases hlt : k < X.length
          · obtain ⟨bd, od, rfl⟩ := hs4.addr (by omega)
            obtain ⟨hbl, c0, c1⟩ := Ly.get (hs4.below hb) hlt
            obtain ⟨kr, jr⟩ := KT2.out _ hb
            have lA := aft_cell hbl
            have lB := aft_cell kr.1
            have lC := aft_cell jr.1
            have ma0 := kr.2.1 0 _ rfl
            have ma1 := kr.2.1 1 _ rfl
            have ma2 := kr.2.1 2 _ rfl
            have ma3 := kr.2.1 3 _ rfl
            have ma4 := kr.2.1 4 _ rfl
            have mb0 := jr.2.1 0 _ rfl
            have mb1 := jr.2.1 1 _ rfl
            have mb2 := jr.2.1 2 _ rfl
            have mb3 := jr.2.1 3 _ rfl
            have mb4 := jr.2.1 4 _ rfl
            have u1 : (0 : Int) ≤ (k : Int) := by omega
            have u2 : (k : Int) < (X.length : Int) := by omega
            have s1 := h.below hb
            have s2 := h2.below hb
            have TC1 := Lib.hid (fun (x : Aft wr) => s7Speed t (some ⟨ba, oa, none⟩) c X[k].dep x.val (s1.aft x) hn)
            have TC2 := Lib.hid (fun (x : Aft wr) => s7Speed u (some ⟨bb, ob, none⟩) d X[k].dep x.val (s2.aft x) hn2)
            have HDm := Lib.hid (show slAt t u wi k = inB (spdK t.lay X[k].dep t.lay.length - spdK u.lay X[k].dep u.lay.length) (-wi) wi by
              have := HX.out
              subst this
              exact slAt_of hlt)
            have d1 := spdK_bd (d := X[k].dep) QG1.out t.lay.length (Nat.le_refl _)
            have d2 := spdK_bd (d := X[k].dep) QG2.out u.lay.length (Nat.le_refl _)
            have x1 : IntKind.i64.wrap (spdK t.lay X[k].dep t.lay.length - spdK u.lay X[k].dep u.lay.length) = spdK t.lay X[k].dep t.lay.length - spdK u.lay X[k].dep u.lay.length := IntWalk.i64_in _ (by omega)
            have x2 : IntKind.i64.wrap (-wi) = -wi := IntWalk.i64_in _ (by omega)
            clear s1 s2 kr jr
            cases hq : slAt t u wi k with
            | false =>
              have HF := Lib.hid (hq ▸ HDm.out).symm
              have HB := Lib.hid (slAll_bad (t := t) (u := u) (wi := wi) (k := k) (by rw [← HX.out]; exact hlt) hq)
              clear hq
              go_wp2_with (fail)
              refine wp_region_aft (by kernel_rfl) (by kernel_rfl) ?_
              repeat (go_big_quiet_step ((first | (go_at_call 63; with_reducible exact Aft.calls _ (TC1.out _)) | (go_at_call 63; with_reducible exact Aft.calls _ (TC2.out _)) | (go_at_call 66; exact Aft.pureB _ (specIn _ _ _ _) HF.out))))
              refine wpQuiet_nil ?_
              intro w9 b9
              go_wp2
              go_ret2
              exact ⟨ret_t2 (vb (E1.out.trans HB.out).symm) (vb E2.out.symm), bth e4 (bth hb b9)⟩
            | true =>
              have HF := Lib.hid (hq ▸ HDm.out).symm
              have HT := Lib.hid hq
              clear hq
              go_wp2_with (fail)
              refine wp_region_aft (by kernel_rfl) (by kernel_rfl) ?_
              repeat (go_big_quiet_step ((first | (go_at_call 63; with_reducible exact Aft.calls _ (TC1.out _)) | (go_at_call 63; with_reducible exact Aft.calls _ (TC2.out _)) | (go_at_call 66; exact Aft.pureB _ (specIn _ _ _ _) HF.out))))
              refine wpQuiet_nil ?_
              intro w9 b9
              go_wp2
              go_roundw
              case rel => exact ⟨k + 1, by omega, by go_num, bth hb b9, (step_ok H.out HT.out : _)⟩
              case measure => simp [intOf]; omega
          · obtain rfl : k = X.length := by omega
            have HA := Lib.hid (slAll_end (t := t) (u := u) (wi := wi) (fun m hm => H.out m (by rw [HX.out]; exact hm)))
            go_wp2
            go_ret2
            exact ⟨ret_t2 (vb (E1.out.trans HA.out).symm) (vb E2.out.symm), bth e4 hb⟩
theorem iSame (t u : Ct) (A B : Option Addr) (c d : Nat) (wi : Int) (w : World) (h : Sl 2 Ly.enc w A t.lay) (hn : t.lay.length ≤ 1048576) (h2 : Sl 2 Ly.enc w B u.lay) (hn2 : u.lay.length ≤ 1048576) :
    Calls Try.prog 23 #[.agg #[.int .i64 t.id, .int .i64 t.time, .int .i64 t.x, .int .i64 t.y, .slice A t.lay.length c], .agg #[.int .i64 u.id, .int .i64 u.time, .int .i64 u.x, .int .i64 u.y, .slice B u.lay.length d], .int .i64 wi] w fun e w' => e = .returned (.tuple #[.bool (slV t u wi), .bool (slOk t u wi)]) ∧ Below w.heap.size w w' := by
  go_enter Try.func23, Try.ntmps23
  go_wp2_with (fail)
  generalize hW : World.alloc w _ = W1
  obtain ⟨bW, kW, _⟩ := alloc_facts hW
  have eW : W1.heap.size = w.heap.size + 1 := by rw [← hW]; simp
  clear hW
  generalize hW2 : World.alloc W1 _ = W2
  obtain ⟨bW2, kW2, _⟩ := alloc_facts hW2
  clear hW2
  rw [eW] at kW2
  clear eW
  have kW := kW.below bW2
  have bW := bth bW bW2
  refine (i7One t A c _ (h.below bW) hn).mono ?_; rintro e w1 ⟨rfl, b1⟩
  have k1 := kW.below b1
  have j1 := kW2.below b1
  have b1 := bth bW b1
  clear kW kW2 bW bW2
  cases g : ctOk t with
  | false =>
    clear k1 j1
    obtain ⟨e1, e2⟩ := sl_bad (t := t) (u := u) (wi := wi) (.inl g)
    have E1 := Lib.hid e1
    have E2 := Lib.hid e2
    clear e1 e2
    go_wp2
    go_ret2
    exact ⟨ret_t2 (vb E1.out.symm) (vb E2.out.symm), b1⟩
  | true =>
    have G1 := Lib.hid g
    clear g
    have mb0 := j1.2.1 0 _ rfl
    have mb1 := j1.2.1 1 _ rfl
    have mb2 := j1.2.1 2 _ rfl
    have mb3 := j1.2.1 3 _ rfl
    have mb4 := j1.2.1 4 _ rfl
    go_wp2_with (fail)
    refine (i7One u B d _ (h2.below b1) hn2).mono ?_; rintro e w2 ⟨rfl, b2⟩
    have k2 := k1.below b2
    have j2 := j1.below b2
    have b2 := bth b1 b2
    clear k1 j1 mb0 mb1 mb2 mb3 mb4
    cases g : ctOk u with
    | false =>
      clear k2 j2
      obtain ⟨e1, e2⟩ := sl_bad (t := t) (u := u) (wi := wi) (.inr (.inl g))
      have E1 := Lib.hid e1
      have E2 := Lib.hid e2
      clear e1 e2
      go_wp2
      go_ret2
      exact ⟨ret_t2 (vb E1.out.symm) (vb E2.out.symm), b2⟩
    | true =>
      have G2 := Lib.hid g
      clear g
      cases g : inB wi 0 2000 with
      | false =>
        have G3 := Lib.hid g
        obtain ⟨e1, e2⟩ := sl_bad (t := t) (u := u) (wi := wi) (.inr (.inr g))
        have E1 := Lib.hid e1
        have E2 := Lib.hid e2
        clear e1 e2 g k2 j2
        go_wp2_with (go_at_call 57; refine (implIn _ _ _ _).mono ?_; rintro e w' ⟨rfl, rfl⟩; rw [G3.out])
        go_ret2
        exact ⟨ret_t2 (vb E1.out.symm) (vb E2.out.symm), b2⟩
      | true =>
        have G3 := Lib.hid g
        obtain ⟨e1, e2⟩ := sl_good G1.out G2.out g
        have E1 := Lib.hid e1
        have E2 := Lib.hid e2
        have hwi := inB_true.1 g
        have Q1 := ctOk_bd G1.out
        have Q2 := ctOk_bd G2.out
        have y1 := Q1.2.2.2.2.2.1
        have y2 := Q1.2.2.2.2.2.2.1
        have y3 := Q2.2.2.2.2.2.1
        have y4 := Q2.2.2.2.2.2.2.1
        have QG1 := Lib.hid Q1.2.2.2.2.2.2.2
        have QG2 := Lib.hid Q2.2.2.2.2.2.2.2
        clear e1 e2 g Q1 Q2
        have h := h.below b2
        have h2 := h2.below b2
        obtain ⟨ba, oa, rfl⟩ := h.addr (by omega)
        obtain ⟨bb, ob, rfl⟩ := h2.addr (by omega)
        have KT := Lib.hid (show ∀ W', Below w2.heap.size w2 W' → Bk W' w.heap.size [.int .i64 t.id, .int .i64 t.time, .int .i64 t.x, .int .i64 t.y, .slice (some ⟨ba, oa, none⟩) t.lay.length c] ∧ Bk W' (w.heap.size + 1) [.int .i64 u.id, .int .i64 u.time, .int .i64 u.x, .int .i64 u.y, .slice (some ⟨bb, ob, none⟩) u.lay.length d] from fun W' hw => ⟨k2.below hw, j2.below hw⟩)
        have KS := Lib.hid (show ∀ W', Below w2.heap.size w2 W' → Below w2.heap.size w2 W' ∧ W'.cell? ⟨w.heap.size, 4, none⟩ = some (.slice (some ⟨ba, oa, none⟩) t.lay.length c) ∧ W'.cell? ⟨w.heap.size + 1, 4, none⟩ = some (.slice (some ⟨bb, ob, none⟩) u.lay.length d) from fun W' hw => ⟨hw, (k2.below hw).2.1 4 _ rfl, (j2.below hw).2.1 4 _ rfl⟩)
        clear k2 j2
        go_wp2_with (go_at_call 57; refine (implIn _ _ _ _).mono ?_; rintro e w' ⟨rfl, rfl⟩; rw [G3.out])
        go_region_held3 (fun w' => Below w2.heap.size w2 w' ∧ w'.cell? ⟨w.heap.size, 4, none⟩ = some (.slice (some ⟨ba, oa, none⟩) t.lay.length c) ∧ w'.cell? ⟨w.heap.size + 1, 4, none⟩ = some (.slice (some ⟨bb, ob, none⟩) u.lay.length d))
          (first | exact KS.out _ b4 | exact KS.out _ b3 | exact KS.out _ (by go_grown))
          (first
            | (refine step_appS (K := 2) (bytes := 16) (enc := Ly.enc) Ly.len Ly.one (by decide) (by decide) _ rfl (.tmp 23) (.tmp 25) _ rfl Try.underlying30 infoLy rfl _ ([] : List Ly) rfl ((OutS.empty (Nat.le_refl _)).below (by go_grown)) t.lay ba oa _ _ rfl rfl (h.below (by go_grown)) (by omega) (by omega) (by simp) (by simp) ?_; intro v3 W3 hO3 hg3 hb3; have hO3 := Lib.hid hO3; have b3 : Below w2.heap.size w2 W3 := Below.trans (by go_grown) hb3)
            | (refine step_appS (K := 2) (bytes := 16) (enc := Ly.enc) Ly.len Ly.one (by decide) (by decide) _ rfl (.tmp 26) (.tmp 28) _ rfl Try.underlying30 infoLy rfl _ ([] ++ t.lay) rfl hO3.out u.lay bb ob _ _ rfl rfl (h2.below b3) (by omega) (by omega) (by simp; omega) b3.size ?_; intro v4 W4 hO4 hg4 hb4; obtain ⟨X, hX⟩ : ∃ X, X = [] ++ t.lay ++ u.lay := ⟨_, rfl⟩; rw [← hX] at hO4; obtain ⟨D4, c4, hv4, _, hs4, _, _⟩ := hO4.sl Ly.len; subst hv4; clear hO4 hg4; have HX := Lib.hid hX; clear hX; have HS4 := Lib.hid hs4; clear hs4; have b4 : Below w2.heap.size w2 W4 := Below.trans b3 hb4))
        have HX := Lib.hid (show X = t.lay ++ u.lay by rw [HX.out, List.nil_append])
        have hX16 : X.length ≤ 16 := by rw [HX.out]; simp; omega
        have hs4 := HS4.out
        clear hg3 hb3 hb4
        have h := h.below b4
        have h2 := h2.below b4
        have KT2 := Lib.hid (fun W' (hw : Below W4.heap.size W4 W') => KT.out W' (bth b4 hw))
        clear KT KS
        have e4 := bth b2 b4
        go_wp2
        go_loopw [31] (fun i wr => ∃ k : Nat, k ≤ X.length ∧ i = .int .i64 k ∧ Below W4.heap.size W4 wr ∧ Hid (∀ m, m < k → slAt t u wi m = true)) (fun i _ => X.length - (intOf i).toNat)
        case atStart => exact ⟨0, Nat.zero_le _, rfl, Below.refl _ _, (fun m hm => absurd hm (by omega) : ∀ m, m < 0 → slAt t u wi m = true)⟩
        case round =>
          obtain ⟨k, hk, rfl, hb, H⟩ := hrel
          by_cases hlt : k < X.length
          · obtain ⟨bd, od, rfl⟩ := hs4.addr (by omega)
            obtain ⟨hbl, c0, c1⟩ := Ly.get (hs4.below hb) hlt
            have u1 : (0 : Int) ≤ (k : Int) := by omega
            have u2 : (k : Int) < (X.length : Int) := by omega
            go_wp2_with (fail)
            generalize hY : World.alloc wr _ = wy
            obtain ⟨bY, kY, _⟩ := alloc_facts hY
            clear hY c0 c1
            have hb := bth hb bY
            obtain ⟨kr, jr⟩ := KT2.out _ hb
            have lA := aft_cell kY.1
            have lB := aft_cell kr.1
            have lC := aft_cell jr.1
            have my0 := kY.2.1 0 _ rfl
            have ma0 := kr.2.1 0 _ rfl
            have ma1 := kr.2.1 1 _ rfl
            have ma2 := kr.2.1 2 _ rfl
            have ma3 := kr.2.1 3 _ rfl
            have ma4 := kr.2.1 4 _ rfl
            have mb0 := jr.2.1 0 _ rfl
            have mb1 := jr.2.1 1 _ rfl
            have mb2 := jr.2.1 2 _ rfl
            have mb3 := jr.2.1 3 _ rfl
            have mb4 := jr.2.1 4 _ rfl
            have s1 := h.below hb
            have s2 := h2.below hb
            have TC1 := Lib.hid (fun (x : Aft wy) => i7Speed t (some ⟨ba, oa, none⟩) c X[k].dep x.val (s1.aft x) hn)
            have TC2 := Lib.hid (fun (x : Aft wy) => i7Speed u (some ⟨bb, ob, none⟩) d X[k].dep x.val (s2.aft x) hn2)
            have HDm := Lib.hid (show slAt t u wi k = inB (spdK t.lay X[k].dep t.lay.length - spdK u.lay X[k].dep u.lay.length) (-wi) wi by
              have := HX.out
              subst this
              exact slAt_of hlt)
            have d1 := spdK_bd (d := X[k].dep) QG1.out t.lay.length (Nat.le_refl _)
            have d2 := spdK_bd (d := X[k].dep) QG2.out u.lay.length (Nat.le_refl _)
            have x1 : IntKind.i64.wrap (spdK t.lay X[k].dep t.lay.length - spdK u.lay X[k].dep u.lay.length) = spdK t.lay X[k].dep t.lay.length - spdK u.lay X[k].dep u.lay.length := IntWalk.i64_in _ (by omega)
            have x2 : IntKind.i64.wrap (-wi) = -wi := IntWalk.i64_in _ (by omega)
            have v1 : -9223372036854775807 ≤ spdK t.lay X[k].dep t.lay.length - spdK u.lay X[k].dep u.lay.length := by omega
            have v2 : spdK t.lay X[k].dep t.lay.length - spdK u.lay X[k].dep u.lay.length ≤ 9223372036854775807 := by omega
            clear s1 s2 kr jr kY x2
            cases hq : slAt t u wi k with
            | false =>
              have hF := hq ▸ HDm.out
              rw [ab_inB] at hF
              have hF : wi < ab (spdK t.lay X[k].dep t.lay.length - spdK u.lay X[k].dep u.lay.length) := by simpa using hF
              have HB := Lib.hid (slAll_bad (t := t) (u := u) (wi := wi) (k := k) (by rw [← HX.out]; exact hlt) hq)
              clear hq
              refine wp_region_aft (by kernel_rfl) (by kernel_rfl) ?_
              repeat (go_big_quiet_step ((first | (go_at_call 65; with_reducible exact Aft.calls _ (TC1.out _)) | (go_at_call 65; with_reducible exact Aft.calls _ (TC2.out _)) | (go_at_call 67; exact Aft.pure _ (implAbs _ _ v1 v2)))))
              refine wpQuiet_nil ?_
              intro w9 b9
              go_wp2
              go_ret2
              exact ⟨ret_t2 (vb (E1.out.trans HB.out).symm) (vb E2.out.symm), bth e4 (bth hb b9)⟩
            | true =>
              have hF := hq ▸ HDm.out
              rw [ab_inB] at hF
              have hF : ¬ wi < ab (spdK t.lay X[k].dep t.lay.length - spdK u.lay X[k].dep u.lay.length) := by simpa using hF
              have HT := Lib.hid hq
              clear hq
              refine wp_region_aft (by kernel_rfl) (by kernel_rfl) ?_
              repeat (go_big_quiet_step ((first | (go_at_call 65; with_reducible exact Aft.calls _ (TC1.out _)) | (go_at_call 65; with_reducible exact Aft.calls _ (TC2.out _)) | (go_at_call 67; exact Aft.pure _ (implAbs _ _ v1 v2)))))
              refine wpQuiet_nil ?_
              intro w9 b9
              go_wp2
              go_roundw
              case rel => exact ⟨k + 1, by omega, by go_num, bth hb b9, (step_ok H.out HT.out : _)⟩
              case measure => simp [intOf]; omega
          · obtain rfl : k = X.length := by omega
            have HA := Lib.hid (slAll_end (t := t) (u := u) (wi := wi) (fun m hm => H.out m (by rw [HX.out]; exact hm)))
            go_wp2
            go_ret2
            exact ⟨ret_t2 (vb (E1.out.trans HA.out).symm) (vb E2.out.symm), bth e4 hb⟩
end Go.Proofs.Ytfmlfeokdaahmaa
