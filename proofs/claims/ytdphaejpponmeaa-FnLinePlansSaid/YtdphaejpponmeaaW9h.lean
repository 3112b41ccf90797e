/- OverlapOf of both texts: what it returns. Lists of at most 1048576 lines. -/
import Derived.Test.YtdphaejpponmeaaW9g
set_option linter.unusedVariables false
set_option linter.unusedSimpArgs false
namespace Go.Proofs.Ytdphaejpponmeaa
open Go.RowKit
set_option maxHeartbeats 2000000
def lni (l : List Ln) (k : Nat) : Ln := l.getD k ⟨0, 0, 0, 0, 0⟩
theorem lni_of {l : List Ln} {k : Nat} (h : k < l.length) : lni l k = l[k] := by simp [lni, List.getD, List.getElem?_eq_getElem h]
@[irreducible] def ovOk (l : List Ln) (a b : Int) : Bool := lnGood l && decide (0 ≤ fnd (isId a) l) && decide (0 ≤ fnd (isId b) l)
@[irreducible] def ovV (l : List Ln) (a b : Int) : Int := if ovOk l a b then (let x := lni l (fnd (isId a) l).toNat; let y := lni l (fnd (isId b) l).toNat; max 0 (min (x.y + x.swath) (y.y + y.swath) - max (x.y - x.swath) (y.y - y.swath))) else 0
theorem ov_bad {l : List Ln} {a b : Int} (h : lnGood l = false ∨ fnd (isId a) l = -1 ∨ fnd (isId b) l = -1) : ovOk l a b = false ∧ ovV l a b = 0 := by
  have : ovOk l a b = false := by
    unfold ovOk
    rcases h with h | h | h <;> simp [h]
  exact ⟨this, by unfold ovV; simp [this]⟩
theorem ov_good {l : List Ln} {a b : Int} {i k : Nat} (h : lnGood l = true) (hi : fnd (isId a) l = i) (hk : fnd (isId b) l = k) (hil : i < l.length) (hkl : k < l.length) :
    ovOk l a b = true ∧ ovV l a b = max 0 (min (l[i].y + l[i].swath) (l[k].y + l[k].swath) - max (l[i].y - l[i].swath) (l[k].y - l[k].swath)) := by
  have : ovOk l a b = true := by unfold ovOk; simp [h, hi, hk]
  refine ⟨this, ?_⟩
  unfold ovV
  rw [if_pos this, hi, hk]
  simp only [Int.toNat_natCast, lni_of hil, lni_of hkl]
theorem sOver (A : Option Addr) (c : Nat) (l : List Ln) (a b : Int) (w : World) (h : Sl 5 Ln.enc w A l) (hn : l.length ≤ 1048576) :
    Calls Try.prog 27 #[.slice A l.length c, .int .i64 a, .int .i64 b] w fun e w' => e = .returned (.tuple #[.int .i64 (ovV l a b), .bool (ovOk l a b)]) ∧ Below w.heap.size w w' := by
  go_enter Try.func27, Try.ntmps27
  go_wp2_with (fail)
  refine (s9Find _ _ a l _ h hn).mono ?_; rintro e w' ⟨rfl, rfl⟩
  go_wp2_with (fail)
  refine (s9Find _ _ b l _ h hn).mono ?_; rintro e w' ⟨rfl, rfl⟩
  go_wp2_with (fail)
  refine (s9Good _ _ l _ h hn).mono ?_; rintro e w1 ⟨rfl, b1⟩
  cases g : lnGood l with
  | false =>
    obtain ⟨e1, e2⟩ := ov_bad (a := a) (b := b) (.inl g)
    have E1 := Lib.hid e1
    have E2 := Lib.hid e2
    clear e1 e2 g
    go_wp2
    go_ret2
    exact ⟨ret_t2 (vi E2.out.symm) (vb E1.out.symm), b1⟩
  | true =>
    rcases fnd_cases (isId a) l with hi | ⟨i, hil, hi, -, -⟩
    · rw [hi]
      obtain ⟨e1, e2⟩ := ov_bad (b := b) (.inr (.inl hi))
      have E1 := Lib.hid e1
      have E2 := Lib.hid e2
      clear e1 e2 hi
      go_wp2
      go_ret2
      exact ⟨ret_t2 (vi E2.out.symm) (vb E1.out.symm), b1⟩
    · rcases fnd_cases (isId b) l with hk | ⟨k, hkl, hk, -, -⟩
      · rw [hi, hk]
        obtain ⟨e1, e2⟩ := ov_bad (a := a) (.inr (.inr hk))
        have E1 := Lib.hid e1
        have E2 := Lib.hid e2
        clear e1 e2 hi hk
        go_wp2
        go_ret2
        exact ⟨ret_t2 (vi E2.out.symm) (vb E1.out.symm), b1⟩
      · obtain ⟨e1, e2⟩ := ov_good g hi hk hil hkl
        have E1 := Lib.hid e1
        have E2 := Lib.hid e2
        rw [hi, hk]
        clear hi hk e1 e2
        have gi := lnOk_bd (lnGood_at g hil)
        have gk := lnOk_bd (lnGood_at g hkl)
        clear g
        have h := h.below b1
        obtain ⟨bl, off, rfl⟩ := h.addr (by omega)
        obtain ⟨hbl, c0, c1, c2, c3, c4⟩ := Ln.get h hil
        obtain ⟨_, d0, d1, d2, d3, d4⟩ := Ln.get h hkl
        have hA := aft_cell hbl
        have u1 : (0 : Int) ≤ (i : Int) := by omega
        have u2 : (i : Int) < (l.length : Int) := by omega
        have u3 : (0 : Int) ≤ (k : Int) := by omega
        have u4 : (k : Int) < (l.length : Int) := by omega
        go_wp2_with (fail)
        have KT : ∀ w', Below w1.heap.size w1 w' → Below w1.heap.size w1 w' ∧ w'.cell? ⟨bl, off + i * 5, none⟩ = some (.int .i64 l[i].id) ∧ w'.cell? ⟨bl, off + i * 5 + 1, none⟩ = some (.int .i64 l[i].y) ∧ w'.cell? ⟨bl, off + i * 5 + 2, none⟩ = some (.int .i64 l[i].frm) ∧ w'.cell? ⟨bl, off + i * 5 + 3, none⟩ = some (.int .i64 l[i].to) ∧ w'.cell? ⟨bl, off + i * 5 + 4, none⟩ = some (.int .i64 l[i].swath) ∧ w'.cell? ⟨bl, off + k * 5, none⟩ = some (.int .i64 l[k].id) ∧ w'.cell? ⟨bl, off + k * 5 + 1, none⟩ = some (.int .i64 l[k].y) ∧ w'.cell? ⟨bl, off + k * 5 + 2, none⟩ = some (.int .i64 l[k].frm) ∧ w'.cell? ⟨bl, off + k * 5 + 3, none⟩ = some (.int .i64 l[k].to) ∧ w'.cell? ⟨bl, off + k * 5 + 4, none⟩ = some (.int .i64 l[k].swath) := fun w' hw => by
          have q := fun o => hw.cell (p := ⟨bl, o, none⟩) hbl
          exact ⟨hw, by rw [q, c0], by rw [q, c1], by rw [q, c2], by rw [q, c3], by rw [q, c4], by rw [q, d0], by rw [q, d1], by rw [q, d2], by rw [q, d3], by rw [q, d4]⟩
        have KT := Lib.hid KT
        clear c0 c1 c2 c3 c4 d0 d1 d2 d3 d4 hA
        go_region_held3 (fun w' => Below w1.heap.size w1 w' ∧ w'.cell? ⟨bl, off + i * 5, none⟩ = some (.int .i64 l[i].id) ∧ w'.cell? ⟨bl, off + i * 5 + 1, none⟩ = some (.int .i64 l[i].y) ∧ w'.cell? ⟨bl, off + i * 5 + 2, none⟩ = some (.int .i64 l[i].frm) ∧ w'.cell? ⟨bl, off + i * 5 + 3, none⟩ = some (.int .i64 l[i].to) ∧ w'.cell? ⟨bl, off + i * 5 + 4, none⟩ = some (.int .i64 l[i].swath) ∧ w'.cell? ⟨bl, off + k * 5, none⟩ = some (.int .i64 l[k].id) ∧ w'.cell? ⟨bl, off + k * 5 + 1, none⟩ = some (.int .i64 l[k].y) ∧ w'.cell? ⟨bl, off + k * 5 + 2, none⟩ = some (.int .i64 l[k].frm) ∧ w'.cell? ⟨bl, off + k * 5 + 3, none⟩ = some (.int .i64 l[k].to) ∧ w'.cell? ⟨bl, off + k * 5 + 4, none⟩ = some (.int .i64 l[k].swath))
          ((refine KT.out _ ?_; go_grown))
          (fail)
        all_goals
          generalize hW : World.drew _ = W2
          obtain ⟨bW, kA, kB⟩ := two_facts hW
          clear hW
          have m0 := kA.2.1 1 _ rfl
          have m1 := kA.2.1 4 _ rfl
          have n0 := kB.2.1 1 _ rfl
          have n1 := kB.2.1 4 _ rfl
          have lA := aft_cell kA.1
          have lB := aft_cell kB.1
          have t1 : IntKind.i64.wrap (l[i].y + l[i].swath) = l[i].y + l[i].swath := IntWalk.i64_in _ (by omega)
          have t2 : IntKind.i64.wrap (l[k].y + l[k].swath) = l[k].y + l[k].swath := IntWalk.i64_in _ (by omega)
          have t3 : IntKind.i64.wrap (l[i].y - l[i].swath) = l[i].y - l[i].swath := IntWalk.i64_in _ (by omega)
          have t4 : IntKind.i64.wrap (l[k].y - l[k].swath) = l[k].y - l[k].swath := IntWalk.i64_in _ (by omega)
          have t5 : IntKind.i64.wrap (min (l[i].y + l[i].swath) (l[k].y + l[k].swath) - max (l[i].y - l[i].swath) (l[k].y - l[k].swath)) = min (l[i].y + l[i].swath) (l[k].y + l[k].swath) - max (l[i].y - l[i].swath) (l[k].y - l[k].swath) := IntWalk.i64_in _ (by omega)
          clear kA kB
          go_wp2_with (fail)
          refine wp_region_aft (by kernel_rfl) (by kernel_rfl) ?_
          repeat (go_big_quiet_step ((first | (go_at_call 75; exact Aft.pure _ (specMost _ _ _)) | (go_at_call 76; exact Aft.pure _ (specLeast _ _ _)))))
          refine wpQuiet_nil ?_
          intro w9 b9
          go_wp2
          go_ret2
          exact ⟨ret_t2 (vi (by rw [E2.out])) (vb E1.out.symm), bth (bth b1 bW) b9⟩
theorem iOver (A : Option Addr) (c : Nat) (l : List Ln) (a b : Int) (w : World) (h : Sl 5 Ln.enc w A l) (hn : l.length ≤ 1048576) :
    Calls Try.prog 28 #[.slice A l.length c, .int .i64 a, .int .i64 b] w fun e w' => e = .returned (.tuple #[.int .i64 (ovV l a b), .bool (ovOk l a b)]) ∧ Below w.heap.size w w' := by
  go_enter Try.func28, Try.ntmps28
  go_wp2_with (fail)
  refine (i9Find _ _ a l _ h hn).mono ?_; rintro e v1 ⟨rfl, x1⟩
  go_wp2_with (fail)
  refine (i9Find _ _ b l _ (h.below x1) hn).mono ?_; rintro e v2 ⟨rfl, x2⟩
  have x2 := bth x1 x2
  go_wp2_with (fail)
  refine (i9Good _ _ l _ (h.below x2) hn).mono ?_; rintro e w1 ⟨rfl, b1⟩
  have b1 := bth x2 b1
  cases g : lnGood l with
  | false =>
    obtain ⟨e1, e2⟩ := ov_bad (a := a) (b := b) (.inl g)
    have E1 := Lib.hid e1
    have E2 := Lib.hid e2
    clear e1 e2 g
    go_wp2
    go_ret2
    exact ⟨ret_t2 (vi E2.out.symm) (vb E1.out.symm), b1⟩
  | true =>
    rcases fnd_cases (isId a) l with hi | ⟨i, hil, hi, -, -⟩
    · rw [hi]
      obtain ⟨e1, e2⟩ := ov_bad (b := b) (.inr (.inl hi))
      have E1 := Lib.hid e1
      have E2 := Lib.hid e2
      clear e1 e2 hi
      go_wp2
      go_ret2
      exact ⟨ret_t2 (vi E2.out.symm) (vb E1.out.symm), b1⟩
    · rcases fnd_cases (isId b) l with hk | ⟨k, hkl, hk, -, -⟩
      · rw [hi, hk]
        obtain ⟨e1, e2⟩ := ov_bad (a := a) (.inr (.inr hk))
        have E1 := Lib.hid e1
        have E2 := Lib.hid e2
        clear e1 e2 hi hk
        go_wp2
        go_ret2
        exact ⟨ret_t2 (vi E2.out.symm) (vb E1.out.symm), b1⟩
      · obtain ⟨e1, e2⟩ := ov_good g hi hk hil hkl
        have E1 := Lib.hid e1
        have E2 := Lib.hid e2
        rw [hi, hk]
        clear hi hk e1 e2
        have gi := lnOk_bd (lnGood_at g hil)
        have gk := lnOk_bd (lnGood_at g hkl)
        clear g
        have h := h.below b1
        obtain ⟨bl, off, rfl⟩ := h.addr (by omega)
        obtain ⟨hbl, c0, c1, c2, c3, c4⟩ := Ln.get h hil
        obtain ⟨_, d0, d1, d2, d3, d4⟩ := Ln.get h hkl
        have hA := aft_cell hbl
        have u1 : (0 : Int) ≤ (i : Int) := by omega
        have u2 : (i : Int) < (l.length : Int) := by omega
        have u3 : (0 : Int) ≤ (k : Int) := by omega
        have u4 : (k : Int) < (l.length : Int) := by omega
        go_wp2_with (fail)
        have KT : ∀ w', Below w1.heap.size w1 w' → Below w1.heap.size w1 w' ∧ w'.cell? ⟨bl, off + i * 5, none⟩ = some (.int .i64 l[i].id) ∧ w'.cell? ⟨bl, off + i * 5 + 1, none⟩ = some (.int .i64 l[i].y) ∧ w'.cell? ⟨bl, off + i * 5 + 2, none⟩ = some (.int .i64 l[i].frm) ∧ w'.cell? ⟨bl, off + i * 5 + 3, none⟩ = some (.int .i64 l[i].to) ∧ w'.cell? ⟨bl, off + i * 5 + 4, none⟩ = some (.int .i64 l[i].swath) ∧ w'.cell? ⟨bl, off + k * 5, none⟩ = some (.int .i64 l[k].id) ∧ w'.cell? ⟨bl, off + k * 5 + 1, none⟩ = some (.int .i64 l[k].y) ∧ w'.cell? ⟨bl, off + k * 5 + 2, none⟩ = some (.int .i64 l[k].frm) ∧ w'.cell? ⟨bl, off + k * 5 + 3, none⟩ = some (.int .i64 l[k].to) ∧ w'.cell? ⟨bl, off + k * 5 + 4, none⟩ = some (.int .i64 l[k].swath) := fun w' hw => by
          have q := fun o => hw.cell (p := ⟨bl, o, none⟩) hbl
          exact ⟨hw, by rw [q, c0], by rw [q, c1], by rw [q, c2], by rw [q, c3], by rw [q, c4], by rw [q, d0], by rw [q, d1], by rw [q, d2], by rw [q, d3], by rw [q, d4]⟩
        have KT := Lib.hid KT
        clear c0 c1 c2 c3 c4 d0 d1 d2 d3 d4 hA
        go_region_held3 (fun w' => Below w1.heap.size w1 w' ∧ w'.cell? ⟨bl, off + i * 5, none⟩ = some (.int .i64 l[i].id) ∧ w'.cell? ⟨bl, off + i * 5 + 1, none⟩ = some (.int .i64 l[i].y) ∧ w'.cell? ⟨bl, off + i * 5 + 2, none⟩ = some (.int .i64 l[i].frm) ∧ w'.cell? ⟨bl, off + i * 5 + 3, none⟩ = some (.int .i64 l[i].to) ∧ w'.cell? ⟨bl, off + i * 5 + 4, none⟩ = some (.int .i64 l[i].swath) ∧ w'.cell? ⟨bl, off + k * 5, none⟩ = some (.int .i64 l[k].id) ∧ w'.cell? ⟨bl, off + k * 5 + 1, none⟩ = some (.int .i64 l[k].y) ∧ w'.cell? ⟨bl, off + k * 5 + 2, none⟩ = some (.int .i64 l[k].frm) ∧ w'.cell? ⟨bl, off + k * 5 + 3, none⟩ = some (.int .i64 l[k].to) ∧ w'.cell? ⟨bl, off + k * 5 + 4, none⟩ = some (.int .i64 l[k].swath))
          ((refine KT.out _ ?_; go_grown))
          (fail)
        all_goals
          generalize hW : World.drew _ = W2
          obtain ⟨bW, kA, kB⟩ := two_facts hW
          clear hW
          have m0 := kA.2.1 1 _ rfl
          have m1 := kA.2.1 4 _ rfl
          have n0 := kB.2.1 1 _ rfl
          have n1 := kB.2.1 4 _ rfl
          clear kA kB
          go_wp2
          all_goals
            go_ret2
            exact ⟨ret_t2 (vi (by rw [E2.out]; first | omega | (split <;> omega) | (split <;> split <;> omega) | (split <;> split <;> split <;> omega))) (vb E1.out.symm), bth b1 bW⟩
end Go.Proofs.Ytdphaejpponmeaa
