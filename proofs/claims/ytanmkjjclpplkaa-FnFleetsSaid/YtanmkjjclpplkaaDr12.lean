/- The draws of the law on fleets: some list of at most twenty craft, some numbers; they change the cursor alone. -/
import Derived.Test.YtanmkjjclpplkaaV5b
import Derived.Test.YtanmkjjclpplkaaW5e
import Derived.Laws.BytesArg
set_option linter.unusedVariables false
set_option linter.unusedSimpArgs false
namespace Go.Proofs.Ytanmkjjclpplkaa
open Go.RowKit
set_option maxHeartbeats 4000000
set_option maxRecDepth 100000
def NmH (l : List Cr) : Prop := ∀ k (hk : k < l.length), l[k].name.size ≤ 100
theorem NmH.nil : NmH [] := fun _ h => absurd h (by simp)
theorem NmH.app {l : List Cr} {v : Cr} (h : NmH l) (hv : v.name.size ≤ 100) : NmH (l ++ [v]) := fun k hk => by
  by_cases e : k < l.length
  · rw [List.getElem_append_left e]; exact h k e
  · have : k = l.length := by simp at hk; omega
    subst this
    simpa using hv
theorem NmH.nms {l : List Cr} (h : NmH l) : NmS l := fun k hk => Nat.le_trans (h k hk) (by omega)
theorem OutS.base {α : Type} {K b b' e : Nat} {enc : α → List Value} {w : World} {v : Value} {l : List α} (h : OutS K enc b e w v l) (hb : b' ≤ b) : OutS K enc b' e w v l :=
  ⟨h.1, h.2.elim .inl fun ⟨g, cap, cur, hv, hg, r⟩ => .inr ⟨g, cap, cur, hv, Nat.le_trans hb hg, r⟩⟩
theorem OutS.belowC {α : Type} {K b e C : Nat} {enc : α → List Value} {w w' : World} {v : Value} {l : List α} (h : OutS K enc b e w v l) (hC : ∀ k, v.ownBlock = some k → k < C) (hb : Below C w w') : OutS K enc b e w' v l :=
  ⟨h.1, h.2.elim .inl fun ⟨g, cap, cur, hv, hg, hh, r⟩ => .inr ⟨g, cap, cur, hv, hg, by rw [hb.block g (hC g (by rw [hv]; rfl))]; exact hh, r⟩⟩
/-- What a draw of a fleet returns. -/
def drF (N p B : Nat) (q : Cd) (m : Nat) (w0 w : World) (e : Ending) (w' : World) : Prop :=
  ∃ (l : List Cr) (A : Option Addr) (c : Nat), e = .returned (.slice A l.length c) ∧ Sl 7 Cr.enc w' A l ∧ NmH l ∧ l.length ≤ N ∧ l.length ≤ c ∧ (∀ a, A = some a → w.heap.size ≤ a.block) ∧ Dr p B q m w0 w' ∧ LB p w.heap.size w w'
theorem drF_out {e : Nat} {N p B : Nat} {q : Cd} {m m' : Nat} {w0 w w' : World} {v : Value} {l : List Cr} (hO : OutS 7 Cr.enc w.heap.size e w' v l) (hn : NmH l) (hN : l.length ≤ N) (D : Dr p B q m' w0 w') (hm : m' ≤ m) (L : LB p w.heap.size w w') :
    drF N p B q m w0 w (.returned v) w' := by
  obtain ⟨A, c, rfl, hc, hs, ho, hb⟩ := hO.sl Cr.len
  exact ⟨l, A, c, rfl, hs, hn, hN, hc, hb, D.mono hm, L⟩
theorem dDepth5 {p B : Nat} {q : Cd} {m : Nat} {w0 w5 w : World} (h : Dr p B q m w0 w5) (hg : Below w5.heap.size w5 w) (hm : m ≤ 800000000) :
    Calls Try.prog 47 #[.pointer (some ⟨p, 0, none⟩)] w (drI p B q (m + 4) w0 w (fun _ => True)) := by
  have h := h.grown hg
  clear hg
  go_enter Try.func47, Try.ntmps47
  go_wp2_with (fail)
  refine (dPickA 8 h (Below.refl _ _) (by omega) (by simp) (by simp [isI]) 24 (by omega)).mono ?_; rintro e w6 ⟨o, rfl, ho, D6, K6, N6, z6⟩
  obtain ⟨o0, ot, oz, oa, ob, ow⟩ := by24 6 8 ho (by omega) (by omega) (by omega)
  have o1 : (1 : Int) ≤ 6 + o / 11 := by omega
  have ob2 : 6 + o / 11 ≤ ((8 : Nat) : Int) := ob
  go_wp2_with (fail)
  refine (dAmongZ D6 (Below.refl _ _) (by omega) N6 (by have := h.lt; omega) z6 ob2 o1 (by omega)).mono ?_; rintro e w7 ⟨z, rfl, -, D7, l7⟩
  go_wp2_with (fail)
  go_ret
  exact ⟨z, rfl, trivial, D7.mono (by omega), K6.next (Below.refl _ _) l7⟩
theorem dCraftId {p B : Nat} {q : Cd} {m : Nat} {w0 w5 w : World} (h : Dr p B q m w0 w5) (hg : Below w5.heap.size w5 w) (hm : m ≤ 800000000) (A : Option Addr) (c : Nat) (l : List Cr) (hs : Sl 7 Cr.enc w A l) (hn : l.length ≤ 20) (hA : ∀ a, A = some a → p < a.block) :
    Calls Try.prog 44 #[.pointer (some ⟨p, 0, none⟩), .slice A l.length c] w (drI p B q (m + 4) w0 w (fun _ => True)) := by
  have h := h.grown hg
  have hp := h.lt
  clear hg
  by_cases h0 : l.length = 0
  · go_enter Try.func44, Try.ntmps44
    go_wp2_with (fail)
    refine (dAmongN h (Below.refl _ _) (by omega) rfl (by decide) (by decide) (by simp) (by simp [isI])).mono ?_; rintro e w2 ⟨z, rfl, -, D2, l2⟩
    go_wp2_with (fail)
    go_ret
    exact ⟨z, rfl, trivial, D2.mono (by omega), (LB.of (Below.refl _ _)).next (below_alloc _ _) l2⟩
  · have h1 : ((l.length : Int) == 0) = false := by rw [beq_eq_false_iff_ne]; omega
    go_enter Try.func44, Try.ntmps44
    go_wp2_with (fail)
    refine (dOne h (Below.refl _ _) (by omega) _ (by omega)).mono ?_; rintro e w2 ⟨b, rfl, D2, l2⟩
    have s2 := hs.lb l2 (fun _ a ha => by have := hA a ha; omega)
    cases b with
    | true =>
      go_wp2_with (fail)
      refine (dAmongN D2 (Below.refl _ _) (by omega) rfl (by decide) (by decide) (by simp) (by simp [isI])).mono ?_; rintro e w3 ⟨z, rfl, -, D3, l3⟩
      go_wp2_with (fail)
      go_ret
      exact ⟨z, rfl, trivial, D3.mono (by omega), l2.next (below_alloc _ _) l3⟩
    | false =>
      go_wp2_with (fail)
      refine (dPick D2 (Below.refl _ _) (by omega) _ (by omega)).mono ?_; rintro e w3 ⟨r, rfl, hr, D3, l3⟩
      have s3 := s2.lb l3 (fun _ a ha => by have := hA a ha; omega)
      obtain ⟨b, off, rfl⟩ := s3.addr (by omega)
      obtain ⟨k, rfl⟩ : ∃ k : Nat, r = (k : Int) := ⟨r.toNat, by omega⟩
      have hk : k < l.length := by omega
      obtain ⟨hbl, c0, c1, c2, c3, c4, c5, c6⟩ := Cr.get s3 hk
      have u1 : (0 : Int) ≤ (k : Int) := by omega
      have u2 : (k : Int) < (l.length : Int) := by omega
      go_wp2_with (fail)
      go_ret
      exact ⟨_, rfl, trivial, D3, l2.next (Below.refl _ _) l3⟩
theorem oneByte (w : World) (z : Int) : (convert 36 9 (.slice (some ⟨w.heap.size, 0, none⟩) 1 1)).run Try.prog (w.alloc (.cells #[.int .u8 z] 5)) = .ok (.string (strOfNums [z])) (w.alloc (.cells #[.int .u8 z] 5)) :=
  run_convert_bytes_arg (P := Try.prog) _ 36 5 Try.underlying36 Try.underlying5 w.heap.size 0 1 1 [z] rfl (fun i hi => by
    obtain rfl : i = 0 := by omega
    exact app_cell rfl rfl) 9 Try.underlying9
theorem dFleet {p B : Nat} {q : Cd} {m : Nat} {w0 w5 w : World} (h : Dr p B q m w0 w5) (hg : Below w5.heap.size w5 w) (hm : m ≤ 700000000) :
    Calls Try.prog 43 #[.pointer (some ⟨p, 0, none⟩)] w (drF 20 p B q (m + 1000) w0 w) := by
  have h := h.grown hg
  have hp := h.lt
  clear hg
  go_enter Try.func43, Try.ntmps43
  go_wp2_with (fail)
  generalize hW : World.alloc w _ = W1
  have hO : OutS 7 Cr.enc w.heap.size 41 W1 (.slice (some ⟨w.heap.size, 0, none⟩) 0 0) ([] : List Cr) := by rw [← hW]; exact OutS.empty (Nat.le_refl _)
  have b1 : Below w.heap.size w W1 := by rw [← hW]; exact below_alloc _ _
  clear hW
  refine (dPick h b1 (by omega) _ (by omega)).mono ?_; rintro e w2 ⟨r, rfl, hr, D2, l2⟩
  have O2 := hO.next (Below.refl _ _) l2 hp
  have L2 := (LB.of (p := p) b1).next (Below.refl _ _) l2
  obtain ⟨n, rfl⟩ : ∃ n : Nat, r = (n : Int) := ⟨r.toNat, by omega⟩
  have hn5 : n ≤ 5 := by omega
  clear hO b1 l2 hr h
  go_wp2_with (fail)
  go_loopw [3, 4, 5] (fun v i j wr => ∃ (l : List Cr) (k : Nat) (id : Int), k ≤ 5 ∧ l.length + k ≤ 5 ∧ i = .int .i64 id ∧ j = .int .i64 k ∧ NmH l ∧ Hid (OutS 7 Cr.enc w.heap.size 41 wr v l) ∧ Dr p B q (m + 2 + 50 * (5 - k)) w0 wr ∧ LB p w.heap.size w wr) (fun _ _ j _ => (intOf j).toNat)
  case atStart => exact ⟨[], n, 0, hn5, by simpa using hn5, rfl, rfl, NmH.nil, O2, D2.mono (by omega), L2⟩
  case round =>
    clear D2 O2 L2 hn5
    obtain ⟨l, k, id, hk, hlk, rfl, rfl, hN, HO, D, L⟩ := hrel
    by_cases hlt : 0 < k
    · obtain ⟨k', rfl⟩ : ∃ k', k = k' + 1 := ⟨k - 1, by omega⟩
      have t1 : (0 : Int) < ((k' + 1 : Nat) : Int) := by omega
      go_wp2_with (fail)
      refine (dPick D (Below.refl _ _) (by omega) _ (by omega)).mono ?_; rintro e w3 ⟨r3, rfl, hr3, D3, l3⟩
      have O3 := HO.out.next (Below.refl _ _) l3 hp
      have L3 := L.next (Below.refl _ _) l3
      have z3 := L3.size
      clear HO D L l3 hr3
      obtain ⟨A, c', rfl, hcl, hs, ho, hbk⟩ := O3.sl Cr.len
      go_wp2_with (at_builtin; refine wp_appL (K := 7) (bytes := 64) (enc := Cr.enc) (base := w3.heap.size) Cr.len Cr.one (by decide) (by decide) _ rfl (.tmp 20) (.tmp 21) _ rfl Try.underlying27 infoCrI rfl _ ([] : List Cr) rfl (OutS.empty (Nat.le_refl _)) l A c' rfl (hs.below (by go_grown)) (by omega) (by simp) (by simp) ?_; intro v' W4 hO4 hg4 hb4 _)
      rw [List.nil_append] at hO4
      have b4 : Below w3.heap.size w3 W4 := (below_alloc w3 _).trans hb4
      have D4 := D3.grown b4
      have L4 := L3.grown b4
      have OO := O3.below b4
      have hC := O3.lt
      clear hg4 hb4 O3 hs ho hbk D3 L3
      refine (dCraft D4 (Below.refl _ _) (by omega) _).mono ?_; rintro e w5 ⟨v, hv, rfl, D5, l5⟩
      have O5 := hO4.next (Below.refl _ _) l5 (by omega)
      have OO := OO.next (Below.refl _ _) l5 hp
      have L5 := L4.next (Below.refl _ _) l5
      have z5 : w3.heap.size ≤ w5.heap.size := Nat.le_trans b4.size l5.size
      have hNv := hN.app hv
      clear hO4 L4 D4 l5 b4
      go_wp2_with (at_builtin; refine wp_app (K := 7) (bytes := 64) (enc := Cr.enc) Cr.len Cr.one (by decide) (by decide) _ rfl (.tmp 22) (.tmp 26) _ rfl Try.underlying27 infoCrI rfl _ _ rfl (O5.below (by go_grown)) (v) _ rfl (by intro j u hu; exact app_cell (by simp) hu) (by omega) (by simp; omega) ?_; intro v6 W6 hO6 hg6 hb6)
      have b6 : Below w3.heap.size w5 W6 := (Below.mono (by go_grown : Below w5.heap.size w5 _) z5).trans hb6
      have OO := OO.belowC (fun k hk => (hC k hk).2) b6
      have D6 := D5.belowB b6 (by omega)
      have L6 := L5.trans (LB.of (b6.mono z3))
      have O6 := hO6.base z3
      clear hO6 hg6 hb6 O5 D5 L5 b6 hC
      obtain ⟨A6, c6, rfl, hcl6, hs6, -, -⟩ := O6.sl Cr.len
      refine (s5Good A6 c6 (l ++ [v]) _ hs6 (by simp; omega) hNv.nms).mono ?_; rintro e w7 ⟨rfl, b7⟩
      have OO := OO.below b7
      have O7 := O6.below b7
      have D7 := D6.grown b7
      have L7 := L6.grown b7
      clear O6 D6 L6 hs6 b7
      have e1 : (l ++ [v]).length = l.length + 1 := by simp
      cases crsGood (l ++ [v]) with
      | true =>
        go_wp2_with (fail)
        go_roundw
        case rel => exact ⟨l ++ [v], k', _, by omega, by simp; omega, rfl, by go_num, hNv, e1 ▸ O7, D7.mono (by omega), L7⟩
        case measure => simp [intOf]
      | false =>
        go_wp2_with (fail)
        refine (dOne D7 (Below.refl _ _) (by omega) _ (by omega)).mono ?_; rintro e w8 ⟨b8, rfl, D8, l8⟩
        have OO := OO.next (Below.refl _ _) l8 hp
        have O8 := O7.next (Below.refl _ _) l8 hp
        have L8 := L7.next (Below.refl _ _) l8
        clear O7 D7 L7 l8
        cases b8 with
        | true =>
          go_wp2_with (fail)
          go_roundw
          case rel => exact ⟨l ++ [v], k', _, by omega, by simp; omega, rfl, by go_num, hNv, e1 ▸ O8, D8.mono (by omega), L8⟩
          case measure => simp [intOf]
        | false =>
          go_wp2_with (fail)
          go_roundw
          case rel => exact ⟨l, k', _, by omega, by omega, rfl, by go_num, hN, OO, D8.mono (by omega), L8⟩
          case measure => simp [intOf]
    · obtain rfl : k = 0 := by omega
      go_wp2_with (fail)
      refine (dOne D (Below.refl _ _) (by omega) _ (by omega)).mono ?_; rintro e w3 ⟨b3, rfl, D3, l3⟩
      have O3 := HO.out.next (Below.refl _ _) l3 hp
      have L3 := L.next (Below.refl _ _) l3
      have z3 := L3.size
      clear HO D L l3
      cases b3 with
      | false =>
        go_wp2_with (fail)
        go_ret
        exact drF_out O3 hN (by omega) D3 (by omega) L3
      | true =>
        clear O3 hN
        go_wp2_with (fail)
        generalize hW : World.alloc w3 _ = W4
        have O4 : OutS 7 Cr.enc w.heap.size 41 W4 (.slice (some ⟨w3.heap.size, 0, none⟩) 0 0) ([] : List Cr) := by rw [← hW]; exact OutS.empty z3
        have b4 : Below w3.heap.size w3 W4 := by rw [← hW]; exact below_alloc _ _
        have D4 := D3.grown b4
        have L4 := L3.grown b4
        clear hW D3 L3
        go_loopw [3, 7] (fun v i wr => ∃ (l : List Cr) (k : Nat), k ≤ 7 ∧ l.length = k ∧ i = .int .i64 k ∧ NmH l ∧ Hid (OutS 7 Cr.enc w.heap.size 41 wr v l) ∧ Dr p B q (m + 500 + 2 * k) w0 wr ∧ LB p w.heap.size w wr) (fun _ i _ => 7 - (intOf i).toNat)
        case atStart => exact ⟨[], 0, by omega, rfl, rfl, NmH.nil, O4, D4.mono (by omega), L4⟩
        case round =>
          clear O4 D4 L4 b4 hlk hk hlt
          obtain ⟨l, k, hk, rfl, rfl, hN, HO, D, L⟩ := hrel
          go_wp2_with (fail)
          refine (dPick D (Below.refl _ _) (by omega) _ (by omega)).mono ?_; rintro e w5 ⟨r5, rfl, hr5, D5, l5⟩
          have O5 := HO.out.next (Below.refl _ _) l5 hp
          have L5 := L.next (Below.refl _ _) l5
          have z5 := L5.size
          clear HO D L l5
          have y1 : IntKind.i64.wrap (6 + r5) = 6 + r5 := IntWalk.i64_in _ (by omega)
          by_cases hlt : (l.length : Int) < 6 + r5
          · have EC := oneByte w5 (97 + (l.length : Int))
            generalize hs : strOfNums [97 + (l.length : Int)] = sn at EC
            have hsz : sn.size ≤ 100 := by rw [← hs, strOfNums_size]; simp
            clear hs
            have y2 : IntKind.i64.wrap ((l.length : Int) + 1) = (l.length : Int) + 1 := IntWalk.i64_in _ (by omega)
            have y3 : IntKind.i64.wrap (10 + (l.length : Int)) = 10 + (l.length : Int) := IntWalk.i64_in _ (by omega)
            go_wp2_with (at_builtin; refine wp_app (K := 7) (bytes := 64) (enc := Cr.enc) Cr.len Cr.one (by decide) (by decide) _ rfl (.tmp 45) (.tmp 56) _ rfl Try.underlying27 infoCrI rfl _ _ rfl (O5.below (by go_grown)) (⟨(l.length : Int) + 1, sn, 50, 0, 0, 10 + (l.length : Int), 0⟩) _ rfl (by intro j u hu; exact app_cell (by simp) hu) (by omega) (by simp; omega) ?_; intro v6 W6 hO6 hg6 hb6)
            have b6 : Below w.heap.size w5 W6 := (Below.mono (by go_grown : Below w5.heap.size w5 _) z5).trans hb6
            refine ⟨⟨l ++ [⟨(l.length : Int) + 1, sn, 50, 0, 0, 10 + (l.length : Int), 0⟩], l.length + 1, by omega, by simp, by go_num, hN.app hsz, Lib.hid hO6, (D5.belowB b6 hp).mono (by omega), L5.trans (LB.of b6)⟩, by simp [intOf]; omega⟩
          · go_wp2_with (fail)
            go_ret
            exact drF_out O5 hN (by omega) D5 (by omega) L5
theorem drAreCraft (X : Option Addr) (x : Nat) (k : List UInt8) (w : World) (h : Sl 1 encU w X k) (hn : k.length ≤ 1048576) :
    Calls Try.prog 52 #[.slice X k.length x] w fun e w' => ∃ (l : List Cr) (A : Option Addr) (c : Nat), e = .returned (.slice A l.length c) ∧ Sl 7 Cr.enc w' A l ∧ NmH l ∧ l.length ≤ 20 ∧ l.length ≤ c ∧ Below w.heap.size w w' := by
  go_enter Try.func52, Try.ntmps52
  go_wp2_with (fail)
  have D0 := Dr.new (c := x) 60 h hn
  generalize hp : w.heap.size = p at *
  generalize hW : World.alloc w _ = W0 at *
  clear hW
  refine (dFleet D0 (Below.refl _ _) (by omega)).mono ?_; rintro e w1 ⟨l, A, c', rfl, s1, hN, hl, hc, hA, D1, l1⟩
  go_wp2_with (fail)
  go_ret
  exact ⟨l, A, c', rfl, s1, hN, hl, hc, hp ▸ D1.done⟩
theorem drShallow (X : Option Addr) (x : Nat) (k : List UInt8) (w : World) (h : Sl 1 encU w X k) (hn : k.length ≤ 1048576) :
    Calls Try.prog 28 #[.slice X k.length x] w fun e w' => ∃ (l : List Cr) (A : Option Addr) (c : Nat), e = .returned (.slice A l.length c) ∧ Sl 7 Cr.enc w' A l ∧ NmH l ∧ l.length ≤ 20 ∧ l.length ≤ c ∧ Below w.heap.size w w' := by
  go_enter Try.func28, Try.ntmps28
  go_wp2_with (fail)
  refine (drAreCraft X x k _ h hn).mono ?_; rintro e w1 ⟨l, A, c', rfl, s1, hN, hl, hc, b1⟩
  go_wp2_with (fail)
  go_ret
  exact ⟨l, A, c', rfl, s1, hN, hl, hc, b1⟩
/-- What the draws of a fleet and two numbers return. -/
def FtO (w : World) (e : Ending) (w' : World) : Prop :=
  ∃ (l : List Cr) (A : Option Addr) (c : Nat) (a b : Int), e = .returned (.tuple #[.slice A l.length c, .int .i64 a, .int .i64 b]) ∧ Sl 7 Cr.enc w' A l ∧ NmH l ∧ l.length ≤ 20 ∧ l.length ≤ c ∧ Below w.heap.size w w'
theorem drFloats (X : Option Addr) (x : Nat) (k : List UInt8) (w : World) (h : Sl 1 encU w X k) (hn : k.length ≤ 1048576) :
    Calls Try.prog 26 #[.slice X k.length x] w (FtO w) := by
  go_enter Try.func26, Try.ntmps26
  go_wp2_with (fail)
  have D0 := Dr.new (c := x) 60 h hn
  generalize hp : w.heap.size = p at *
  generalize hW : World.alloc w _ = W0 at *
  clear hW
  refine (dFleet D0 (Below.refl _ _) (by omega)).mono ?_; rintro e w1 ⟨l, A, c', rfl, s1, hN, hl, hc, hA, D1, l1⟩
  have hA' : ∀ a, A = some a → p < a.block := fun a ha => Nat.lt_of_lt_of_le D0.lt (hA a ha)
  clear D0 l1 hA
  go_wp2_with (fail)
  refine (dDepth5 D1 (Below.refl _ _) (by omega)).mono ?_; rintro e w2 ⟨z2, rfl, -, D2, l2⟩
  have s2 := s1.lb l2 (fun _ a ha => by have := hA' a ha; omega)
  go_wp2_with (fail)
  refine (dPickA 5 D2 (Below.refl _ _) (by omega) (by simp) (by simp [isI]) 24 (by omega)).mono ?_; rintro e w6 ⟨o, rfl, ho, D6, K6, N6, z6⟩
  obtain ⟨o0, ot, oz, oa, ob, ow⟩ := by24 3 5 ho (by omega) (by omega) (by omega)
  have o1 : (1 : Int) ≤ 3 + o / 11 := by omega
  have ob2 : 3 + o / 11 ≤ ((5 : Nat) : Int) := ob
  go_wp2_with (fail)
  refine (dAmongZ D6 (Below.refl _ _) (by omega) N6 (by have := D2.lt; omega) z6 ob2 o1 (by omega)).mono ?_; rintro e w7 ⟨z, rfl, -, D7, l7⟩
  have s7 := s2.lb (K6.next (Below.refl _ _) l7) (fun _ a ha => by have := hA' a ha; omega)
  go_wp2_with (fail)
  go_ret3
  exact ⟨l, A, c', z2, z, rfl, s7, hN, hl, hc, hp ▸ D7.done⟩
theorem drUse (X : Option Addr) (x : Nat) (k : List UInt8) (w : World) (h : Sl 1 encU w X k) (hn : k.length ≤ 1048576) :
    Calls Try.prog 19 #[.slice X k.length x] w (FtO w) := by
  go_enter Try.func19, Try.ntmps19
  go_wp2_with (fail)
  have D0 := Dr.new (c := x) 60 h hn
  generalize hp : w.heap.size = p at *
  generalize hW : World.alloc w _ = W0 at *
  clear hW
  refine (dFleet D0 (Below.refl _ _) (by omega)).mono ?_; rintro e w1 ⟨l, A, c', rfl, s1, hN, hl, hc, hA, D1, l1⟩
  have hA' : ∀ a, A = some a → p < a.block := fun a ha => Nat.lt_of_lt_of_le D0.lt (hA a ha)
  clear D0 l1 hA
  go_wp2_with (fail)
  refine (dCraftId D1 (Below.refl _ _) (by omega) A c' l s1 hl hA').mono ?_; rintro e w2 ⟨z2, rfl, -, D2, l2⟩
  have s2 := s1.lb l2 (fun _ a ha => by have := hA' a ha; omega)
  go_wp2_with (fail)
  refine (dPickA 6 D2 (Below.refl _ _) (by omega) (by simp) (by simp [isI]) 24 (by omega)).mono ?_; rintro e w6 ⟨o, rfl, ho, D6, K6, N6, z6⟩
  obtain ⟨o0, ot, oz, oa, ob, ow⟩ := by24 4 6 ho (by omega) (by omega) (by omega)
  have o1 : (1 : Int) ≤ 4 + o / 11 := by omega
  have ob2 : 4 + o / 11 ≤ ((6 : Nat) : Int) := ob
  go_wp2_with (fail)
  refine (dAmongZ D6 (Below.refl _ _) (by omega) N6 (by have := D2.lt; omega) z6 ob2 o1 (by omega)).mono ?_; rintro e w7 ⟨z, rfl, -, D7, l7⟩
  have s7 := s2.lb (K6.next (Below.refl _ _) l7) (fun _ a ha => by have := hA' a ha; omega)
  go_wp2_with (fail)
  go_ret3
  exact ⟨l, A, c', z2, z, rfl, s7, hN, hl, hc, hp ▸ D7.done⟩
theorem drFor (X : Option Addr) (x : Nat) (k : List UInt8) (w : World) (h : Sl 1 encU w X k) (hn : k.length ≤ 1048576) :
    Calls Try.prog 21 #[.slice X k.length x] w (FtO w) := by
  go_enter Try.func21, Try.ntmps21
  go_wp2_with (fail)
  have D0 := Dr.new (c := x) 60 h hn
  generalize hp : w.heap.size = p at *
  generalize hW : World.alloc w _ = W0 at *
  clear hW
  refine (dFleet D0 (Below.refl _ _) (by omega)).mono ?_; rintro e w1 ⟨l, A, c', rfl, s1, hN, hl, hc, hA, D1, l1⟩
  have hA' : ∀ a, A = some a → p < a.block := fun a ha => Nat.lt_of_lt_of_le D0.lt (hA a ha)
  clear D0 l1 hA
  go_wp2_with (fail)
  refine (dPickA 6 D1 (Below.refl _ _) (by omega) (by simp) (by simp [isI]) 24 (by omega)).mono ?_; rintro e w6 ⟨o, rfl, ho, D6, K6, N6, z6⟩
  obtain ⟨o0, ot, oz, oa, ob, ow⟩ := by24 4 6 ho (by omega) (by omega) (by omega)
  have o1 : (1 : Int) ≤ 4 + o / 11 := by omega
  have ob2 : 4 + o / 11 ≤ ((6 : Nat) : Int) := ob
  go_wp2_with (fail)
  refine (dAmongZ D6 (Below.refl _ _) (by omega) N6 (by have := D1.lt; omega) z6 ob2 o1 (by omega)).mono ?_; rintro e w7 ⟨z, rfl, -, D7, l7⟩
  have s7 := s1.lb (K6.next (Below.refl _ _) l7) (fun _ a ha => by have := hA' a ha; omega)
  go_wp2_with (fail)
  refine (dDepth5 D7 (Below.refl _ _) (by omega)).mono ?_; rintro e w8 ⟨z2, rfl, -, D8, l8⟩
  have s8 := s7.lb l8 (fun _ a ha => by have := hA' a ha; omega)
  go_wp2_with (fail)
  go_ret3
  exact ⟨l, A, c', z, z2, rfl, s8, hN, hl, hc, hp ▸ D8.done⟩
end Go.Proofs.Ytanmkjjclpplkaa
