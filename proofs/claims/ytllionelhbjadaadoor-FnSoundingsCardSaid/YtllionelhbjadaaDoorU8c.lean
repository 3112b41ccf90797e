/- The program's ParseInt and ParseSounding: what they return, where the library's table, its greatest length and its errors read as its initialisers lay them. -/
import Derived.Test.YtllionelhbjadaaDoorU8b
import Derived.Test.YtllionelhbjadaaDoorAtC
import Derived.Test.YtllionelhbjadaaDoorInts
import Derived.Test.YtllionelhbjadaaDoorOut
set_option linter.unusedVariables false
set_option linter.unusedSimpArgs false
namespace Go.Proofs.YtllionelhbjadaaDoor
open Go.RowKit
set_option maxHeartbeats 8000000
set_option maxRecDepth 100000
/-- What ParseInt answers. -/
def piPost (s : ByteArray) (w : World) (e : Ending) (w' : World) : Prop := ∃ (n : Int) (ok : Bool), e = .returned (.tuple #[.int .i64 n, .bool ok]) ∧ (ok = true → -999999 ≤ n ∧ n ≤ 999999 ∧ s.data.toList = Lib.itoa n) ∧ (∀ z, -999999 ≤ z → z ≤ 999999 → s.data.toList = Lib.itoa z → ok = true ∧ n = z) ∧ Below w.heap.size w w'
theorem iPInt (s : ByteArray) (w : World) (hs : s.size ≤ 9223372036854775807) (R : RdOk w) :
    Calls Tryd.prog 31 #[.string s] w (piPost s w) := by
  by_cases hl : s.size ≤ 7
  · have t1 : ¬ (7 : Int) < (s.size : Int) := by omega
    go_enter Tryd.func31, Tryd.ntmps31
    go_wp2_with (fail)
    refine (atoiC s (by omega) w R).mono ?_; rintro e w2 ⟨n, er, rfl, hcase, b2⟩
    rcases hcase with ⟨rfl, hok⟩ | ⟨⟨te, pe, rfl⟩, hno⟩
    · have EQ := Lib.hid (show ∀ z, -999999 ≤ z → z ≤ 999999 → s.data.toList = Lib.itoa z → n = z from fun z h0 h1 hz => by
        rw [hz, atoi_itoa z (by omega) (by omega)] at hok
        injection hok with hok
        exact hok.symm)
      clear hok
      go_wp2_with (fail)
      refine (implIn _ _ _ _).mono ?_; rintro e w' ⟨rfl, rfl⟩
      cases g : inB n (-999999) 999999 with
      | false =>
        have G := Lib.hid (inB_false.1 g)
        clear g
        go_wp2_with (fail)
        exact bodyPost_ret (v := .tuple #[.int .i64 0, .bool false]) (by simp [results, Tryd.results31, go_sem]) rfl ⟨0, false, rfl, fun h => (by cases h), fun z h0 h1 hz => absurd hz (fun e => G.out (by rw [EQ.out z h0 h1 e]; exact ⟨h0, h1⟩)), b2⟩
      | true =>
        have G := Lib.hid (inB_true.1 g)
        clear g
        go_wp2_with (fail)
        refine (itoaC n (by have := G.out; omega) (by have := G.out; omega) _ (R.below b2).tab).mono ?_; rintro e w3 ⟨rfl, b3⟩
        by_cases he : num n = s
        · have HE := Lib.hid (show s.data.toList = Lib.itoa n by rw [← he, num_list])
          rw [he]
          clear he
          go_wp2_with (fail)
          exact bodyPost_ret (v := .tuple #[.int .i64 n, .bool true]) (by simp [results, Tryd.results31, go_sem]) rfl ⟨n, true, rfl, fun _ => ⟨G.out.1, G.out.2, HE.out⟩, fun z h0 h1 hz => ⟨rfl, EQ.out z h0 h1 hz⟩, bth b2 b3⟩
        · have HE := Lib.hid he
          obtain ⟨q1, q2⟩ := ba_ne he
          clear he
          go_wp2_with (fail)
          exact bodyPost_ret (v := .tuple #[.int .i64 0, .bool false]) (by simp [results, Tryd.results31, go_sem]) rfl ⟨0, false, rfl, fun h => (by cases h), fun z h0 h1 hz => absurd hz (fun e => HE.out (by rw [EQ.out z h0 h1 e]; exact (num_of e).symm)), bth b2 b3⟩
    · have NO := Lib.hid hno
      clear hno
      go_wp2_with (fail)
      exact bodyPost_ret (v := .tuple #[.int .i64 0, .bool false]) (by simp [results, Tryd.results31, go_sem]) rfl ⟨0, false, rfl, fun h => (by cases h), fun z h0 h1 hz => absurd hz (fun e => NO.out z (by rw [e]; exact atoi_itoa z (by omega) (by omega))), b2⟩
  · have t1 : (7 : Int) < (s.size : Int) := by omega
    go_enter Tryd.func31, Tryd.ntmps31
    go_wp2_with (fail)
    exact bodyPost_ret (v := .tuple #[.int .i64 0, .bool false]) (by simp [results, Tryd.results31, go_sem]) rfl ⟨0, false, rfl, fun h => (by cases h), fun z h0 h1 hz => absurd hz (fun e => by have h7 := itoa_len z h0 h1; rw [← e, sl] at h7; omega), Below.refl _ _⟩
/-! The rounds of the reader. -/
def sp (k : Nat) : ByteArray := [⟨#[64]⟩, ⟨#[44]⟩, ⟨#[58]⟩, ⟨#[43, 45]⟩].getD k ⟨#[]⟩
def sepL (k : Nat) : List UInt8 := (sp k).data.toList
def fs (x : Sd) : List Int := [x.id, x.x, x.y, x.depth, x.doubt]
def pr : Nat → List Int → List UInt8
  | _, [] => []
  | k, a :: r => Lib.itoa a ++ (sepL k ++ pr (k + 1) r)
theorem pr_snoc (n : Int) : ∀ (L : List Int) (k : Nat), pr k (L ++ [n]) = pr k L ++ (Lib.itoa n ++ sepL (k + L.length))
  | [], k => by simp [pr]
  | a :: r, k => by
    rw [List.cons_append, pr, pr, pr_snoc n r (k + 1), List.length_cons, show k + 1 + r.length = k + (r.length + 1) by omega]
    simp only [List.append_assoc]
theorem t0_pr (x : Sd) : t0 x = pr 0 (fs x) := by
  unfold t0 t1 t2 t3 t4 t5 fs
  simp [pr, sepL, sp]
/-- What holds behind k rounds: the rest is c, the numbers are L. -/
def PI (s : ByteArray) (k : Nat) (c : ByteArray) (L : List Int) : Prop :=
  L.length = k ∧ (∀ z ∈ L, -999999 ≤ z ∧ z ≤ 999999) ∧ s.data.toList = pr 0 L ++ c.data.toList ∧ (∀ x, sdOk x = true → tx8 x = s → c.data.toList = pr k ((fs x).drop k) ∧ L = (fs x).take k)
theorem PI.zero (s : ByteArray) : PI s 0 s [] := ⟨rfl, fun _ h => by simp at h, by simp [pr], fun x _ h => ⟨by rw [tx8_parts h, t0_pr]; rfl, by simp⟩⟩
theorem fs_sm {x : Sd} (h : sdOk x = true) : ∀ z ∈ fs x, -999999 ≤ z ∧ z ≤ 999999 := by
  have b := sd_sm h
  intro z hz
  simp [fs] at hz
  omega
theorem fs_at (x : Sd) {k : Nat} (hk : k < 5) : ∃ z, z ∈ fs x ∧ (fs x).drop k = z :: (fs x).drop (k + 1) ∧ (fs x).take (k + 1) = (fs x).take k ++ [z] := by
  have hl : k < (fs x).length := by simp [fs]; omega
  exact ⟨(fs x)[k], List.getElem_mem _, (List.getElem_cons_drop hl).symm, List.take_succ_eq_append_getElem hl⟩
theorem sp_cut {x : Sd} {c : ByteArray} {k : Nat} (hk : k < 4) {z : Int} {r : List UInt8} (hc : c.data.toList = Lib.itoa z ++ (sepL k ++ r)) : Lib.cut c.data.toList (sp k).data.toList = (Lib.itoa z, r, true) := by
  rw [hc, ← List.append_assoc]
  have h4 : k = 0 ∨ k = 1 ∨ k = 2 ∨ k = 3 := by omega
  rcases h4 with rfl | rfl | rfl | rfl
  · exact cut_hit (no64 z)
  · exact cut_hit (no44 z)
  · exact cut_hit (no58 z)
  · exact cut_hit (no43 z)
/-- A cut that is not found, a word that is no number: then s is no text of a sounding. -/
theorem PI.no_cut {s c u v : ByteArray} {k : Nat} {L : List Int} (h : PI s k c L) (hk : k < 4) (hc : Lib.cut c.data.toList (sp k).data.toList = (u.data.toList, v.data.toList, false)) : ∀ x, sdOk x = true → tx8 x ≠ s := fun x hx hs => by
  obtain ⟨z, _, hd, _⟩ := fs_at x (k := k) (by omega)
  have e := (h.2.2.2 x hx hs).1
  rw [hd, pr] at e
  rw [sp_cut (x := x) hk e] at hc
  simp at hc
theorem PI.no_num {s c u v : ByteArray} {k : Nat} {L : List Int} (h : PI s k c L) (hk : k < 4) (hc : Lib.cut c.data.toList (sp k).data.toList = (u.data.toList, v.data.toList, true)) (hn : ∀ z, -999999 ≤ z → z ≤ 999999 → u.data.toList ≠ Lib.itoa z) : ∀ x, sdOk x = true → tx8 x ≠ s := fun x hx hs => by
  obtain ⟨z, hz, hd, _⟩ := fs_at x (k := k) (by omega)
  have e := (h.2.2.2 x hx hs).1
  rw [hd, pr] at e
  rw [sp_cut (x := x) hk e] at hc
  simp only [Prod.mk.injEq] at hc
  have b := fs_sm hx z hz
  exact hn z b.1 b.2 hc.1.symm
theorem PI.step {s c u v : ByteArray} {k : Nat} {L : List Int} {n : Int} (h : PI s k c L) (hk : k < 4) (hc : Lib.cut c.data.toList (sp k).data.toList = (u.data.toList, v.data.toList, true)) (h0 : -999999 ≤ n) (h1 : n ≤ 999999) (hu : u.data.toList = Lib.itoa n) : PI s (k + 1) v (L ++ [n]) := by
  obtain ⟨p1, p2, p3, p4⟩ := h
  refine ⟨by simp [p1], fun z hz => ?_, ?_, fun x hx hs => ?_⟩
  · rcases List.mem_append.1 hz with hz | hz
    · exact p2 z hz
    · obtain rfl := List.mem_singleton.1 hz
      exact ⟨h0, h1⟩
  · rw [p3, pr_snoc, cut_yes hc, hu, p1, Nat.zero_add]
    simp only [sepL, List.append_assoc]
  · obtain ⟨z, hz, hd, ht⟩ := fs_at x (k := k) (by omega)
    obtain ⟨e, eL⟩ := p4 x hx hs
    rw [hd, pr] at e
    rw [sp_cut (x := x) hk e] at hc
    simp only [Prod.mk.injEq] at hc
    have b := fs_sm hx z hz
    have : z = n := itoa_inj (by omega) (by omega) (by omega) (by omega) (hc.1.trans hu)
    subst this
    exact ⟨hc.2.1.symm, by rw [eL, ht]⟩
theorem PI.no_last {s c : ByteArray} {L : List Int} (h : PI s 4 c L) (hn : ∀ z, -999999 ≤ z → z ≤ 999999 → c.data.toList ≠ Lib.itoa z) : ∀ x, sdOk x = true → tx8 x ≠ s := fun x hx hs => by
  have e := (h.2.2.2 x hx hs).1
  have b := sd_sm hx
  exact hn x.doubt (by omega) (by omega) (by rw [e]; simp [fs, pr, sepL, sp])
theorem PI.last {s c : ByteArray} {L : List Int} {n : Int} (h : PI s 4 c L) (h0 : -999999 ≤ n) (h1 : n ≤ 999999) (hu : c.data.toList = Lib.itoa n) : PI s 5 ByteArray.empty (L ++ [n]) := by
  obtain ⟨p1, p2, p3, p4⟩ := h
  refine ⟨by simp [p1], fun z hz => ?_, ?_, fun x hx hs => ?_⟩
  · rcases List.mem_append.1 hz with hz | hz
    · exact p2 z hz
    · obtain rfl := List.mem_singleton.1 hz
      exact ⟨h0, h1⟩
  · rw [p3, pr_snoc, hu, p1]
    simp [sepL, sp]
  · obtain ⟨e, eL⟩ := p4 x hx hs
    have b := sd_sm hx
    have : x.doubt = n := itoa_inj (by omega) (by omega) (by omega) (by omega) (by rw [← hu, e]; simp [fs, pr, sepL, sp])
    subst this
    exact ⟨by simp [fs, pr], by rw [eL]; rfl⟩
/-- Behind the last round. -/
theorem PI.done {s c : ByteArray} {L : List Int} (h : PI s 5 c L) (hc : c.data.toList = []) : ∃ y : Sd, L = fs y ∧ tx8 y = s ∧ ∀ x, sdOk x = true → tx8 x = s → x = y := by
  obtain ⟨p1, p2, p3, p4⟩ := h
  match L, p1 with
  | [a, b, d, e, f], _ =>
    refine ⟨⟨a, b, d, e, f⟩, rfl, ?_, fun x hx hs => ?_⟩
    · apply ba_ext
      rw [tx8_list, t0_pr, p3, hc, List.append_nil]
      rfl
    · have := (p4 x hx hs).2
      simp [fs] at this
      obtain ⟨rfl, rfl, rfl, rfl, rfl⟩ := this
      rfl
end Go.Proofs.YtllionelhbjadaaDoor
