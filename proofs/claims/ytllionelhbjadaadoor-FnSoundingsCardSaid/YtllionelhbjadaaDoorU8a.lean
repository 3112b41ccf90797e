/- The reference's reader of a sounding's text: cuts, numbers, the whole. Texts of a length that a text can have. -/
import Derived.Test.YtllionelhbjadaaDoorP8p
import Derived.Deep.Cut
set_option linter.unusedVariables false
set_option linter.unusedSimpArgs false
namespace Go.Proofs.YtllionelhbjadaaDoor
open Go.RowKit
set_option maxHeartbeats 4000000
set_option maxRecDepth 100000
theorem ex_size (s : ByteArray) (a b : Nat) : (s.extract a b).size ≤ s.size := by rw [← sl, ← sl, ex_list]; simp; omega
theorem ex_tail (s : ByteArray) (a : Nat) : (s.extract a s.size).data.toList = s.data.toList.drop a := by
  rw [ex_list]; exact List.take_of_length_le (by rw [List.length_drop, sl]; exact Nat.le_refl _)
theorem sCut (s : ByteArray) (b : UInt8) (c : Int) (hc : c = (b.toNat : Int)) (w : World) (hs : s.size ≤ 1000) :
    Calls Tryd.prog 28 #[.string s, .int .u8 c] w fun e w' => ∃ u v : ByteArray, e = .returned (.tuple #[.string u, .string v]) ∧ u.data.toList = cuL b s.data.toList ∧ v.data.toList = cuR b s.data.toList ∧ u.size ≤ s.size ∧ v.size ≤ s.size ∧ Below w.heap.size w w' := by
  have HC := Lib.hid hc
  clear hc
  go_enter Tryd.func28, Tryd.ntmps28
  go_wp2
  go_loop [6] (fun i => ∃ k : Nat, k ≤ s.size ∧ i = .int .i64 k ∧ Hid (∀ m (hm : m < s.size), m < k → s[m] ≠ b)) (fun i => s.size - (intOf i).toNat)
  case atStart => exact ⟨0, Nat.zero_le _, rfl, (fun m _ hm => absurd hm (by omega) : ∀ m (hm : m < s.size), m < 0 → s[m] ≠ b)⟩
  case round =>
    obtain ⟨k, hk, rfl, H⟩ := hrel
    by_cases hlt : k < s.size
    · have u1 : (0 : Int) ≤ (k : Int) := by omega
      have u2 : (k : Int) < (s.size : Int) := by omega
      have u3 : (k : Int) ≤ (s.size : Int) := by omega
      have u4 : (0 : Int) ≤ (k : Int) + 1 := by omega
      have u5 : (k : Int) + 1 ≤ (s.size : Int) := by omega
      have y1 : IntKind.i64.wrap ((k : Int) + 1) = (k : Int) + 1 := IntWalk.i64_in _ (by omega)
      by_cases hb : s[k] = b
      · have hkc : (s[k].toNat : Int) = c := by rw [HC.out, hb]
        have HB := Lib.hid hb
        clear hb
        go_wp2
        go_quiet (fail)
        go_wp2
        go_ret2
        have ct := cu_take (b := b) (l := s.data.toList) (i := k) (by rw [sl]; exact hlt) (by rw [sg hlt]; exact HB.out) (fun m hm hmk => by
          have h2 : m < s.size := by omega
          rw [sg h2]; exact H.out m h2 hmk)
        exact ⟨_, _, rfl, by rw [ex_list, ct.1]; simp, by rw [ex_tail, ct.2], ex_size _ _ _, ex_size _ _ _, bdrew (Below.refl _ _) _⟩
      · have hkc : ¬ (s[k].toNat : Int) = c := by rw [HC.out]; intro e; exact hb (UInt8.toNat_inj.1 (by omega))
        have HB := Lib.hid hb
        clear hb
        go_wp2
        go_round
        case rel => exact ⟨k + 1, by omega, by go_num, (fun m hm hm2 => by
            by_cases e : m = k
            · subst e; exact HB.out
            · exact H.out m hm (by omega) : ∀ m (hm : m < s.size), m < k + 1 → s[m] ≠ b)⟩
        case measure => simp [intOf]; omega
    · obtain rfl : k = s.size := by omega
      go_wp2
      go_ret2
      have hn := cu_none (b := b) (l := s.data.toList) (fun m hm => by
        have h2 : m < s.size := by rw [sl] at hm; exact hm
        rw [sg h2]; exact H.out m h2 h2)
      exact ⟨_, _, rfl, hn.1.symm, hn.2.symm, Nat.le_refl _, Nat.zero_le _, Below.refl _ _⟩
/-- What stands behind the sign of s. -/
def Sgn (s t : ByteArray) (g : Bool) : Prop := (g = true ∧ s.data.toList = 45 :: t.data.toList ∧ 1 < s.size ∧ t.size + 1 = s.size) ∨ (g = false ∧ t = s ∧ ¬ (1 < s.size ∧ s.data.toList[0]? = some 45))
theorem itoa_neg' {z : Int} (h : z < 0) : Lib.itoa z = 45 :: Lib.decDigits z.natAbs := by unfold Lib.itoa; rw [if_pos h]
theorem itoa_pos' {z : Int} (h : ¬ z < 0) : Lib.itoa z = Lib.decDigits z.natAbs := by unfold Lib.itoa; rw [if_neg h]; congr 1; omega
/-- If s is the numeral of z: what stands behind the sign. -/
theorem sgn_num {s t : ByteArray} {g : Bool} (h : Sgn s t g) {z : Int} (h0 : -999999 ≤ z) (h1 : z ≤ 999999) (hs : s.data.toList = Lib.itoa z) :
    t.data.toList = Lib.decDigits z.natAbs ∧ (g = true ↔ z < 0) ∧ 1 ≤ t.size ∧ t.size ≤ 6 := by
  have hl := dd_len 6 z.natAbs (by omega) (by omega)
  have hn : 1 ≤ (Lib.decDigits z.natAbs).length := by
    have := dd_ne z.natAbs
    cases e : Lib.decDigits z.natAbs with
    | nil => exact absurd e this
    | cons a l => simp
  have key : t.data.toList = Lib.decDigits z.natAbs ∧ (g = true ↔ z < 0) := by
    by_cases hz : z < 0
    · rw [itoa_neg' hz] at hs
      rcases h with ⟨rfl, h2, _⟩ | ⟨rfl, rfl, h2⟩
      · rw [h2] at hs
        injection hs with _ hs
        exact ⟨hs, by simp [hz]⟩
      · exfalso
        apply h2
        refine ⟨?_, by rw [hs]; rfl⟩
        rw [← sl, hs, List.length_cons]; omega
    · rw [itoa_pos' hz] at hs
      rcases h with ⟨rfl, h2, _⟩ | ⟨rfl, rfl, h2⟩
      · exfalso
        have := dd_digit z.natAbs 45 (by rw [← hs, h2]; exact List.mem_cons_self ..)
        unfold isD at this
        exact absurd this (by decide)
      · exact ⟨hs, by simp [hz]⟩
  refine ⟨key.1, key.2, ?_, ?_⟩
  · rw [← sl, key.1]; exact hn
  · rw [← sl, key.1]; exact hl
theorem dv_bd6 {l : List UInt8} (h : l.length ≤ 6) (hd : ∀ b ∈ l, isD b) : 0 ≤ dv l ∧ dv l ≤ 999999 := by
  have := dv_bd l.length l rfl hd
  have h7 : l.length = 0 ∨ l.length = 1 ∨ l.length = 2 ∨ l.length = 3 ∨ l.length = 4 ∨ l.length = 5 ∨ l.length = 6 := by omega
  rcases h7 with e | e | e | e | e | e | e <;> rw [e] at this <;> simp only [Int.reducePow] at this <;> omega
theorem isD_take {t : ByteArray} {k : Nat} (h : ∀ m (hm : m < t.size), m < k → isD t[m]) : ∀ b ∈ t.data.toList.take k, isD b := fun b hb => by
  obtain ⟨m, hm, e⟩ := List.mem_iff_getElem.1 hb
  have hm' : m < k ∧ m < t.size := by rw [List.length_take, sl] at hm; omega
  rw [List.getElem_take, sg hm'.2] at e
  rw [← e]; exact h m hm'.2 hm'.1
theorem dv_step {t : ByteArray} {k : Nat} (hk : k < t.size) : dv (t.data.toList.take (k + 1)) = 10 * dv (t.data.toList.take k) + ((t[k].toNat : Int) - 48) := by
  rw [List.take_succ_eq_append_getElem (by rw [sl]; exact hk), dv_snoc, sg hk]
theorem num_dig {t : ByteArray} {n : Nat} (h : t.data.toList = Lib.decDigits n) {k : Nat} (hk : k < t.size) : isD t[k] := by
  apply dd_digit n
  rw [← h, ← sg hk]
  exact List.getElem_mem _
theorem ba_ne {a b : ByteArray} (h : a ≠ b) : (a.toList == b.toList) = false ∧ (a == b) = false := by
  have e : (a.toList == b.toList) = false := by
    rw [beq_eq_false_iff_ne, ByteArray.toList_eq, ByteArray.toList_eq]
    intro e
    exact h (ba_ext e)
  exact ⟨e, by rw [beq_toListBytes]; exact e⟩
/-- What a reading of a number answers. -/
def rdPost (s : ByteArray) (w : World) (e : Ending) (w' : World) : Prop := ∃ (r : Int) (ok : Bool), e = .returned (.tuple #[.int .i64 r, .bool ok]) ∧ (∀ z, -999999 ≤ z → z ≤ 999999 → s.data.toList = Lib.itoa z → r = z) ∧ Below w.heap.size w w'
theorem sRead (s : ByteArray) (w : World) (hs : s.size ≤ 1000) :
    Calls Tryd.prog 29 #[.string s] w (rdPost s w) := by
  by_cases hg : 1 < s.size ∧ s.data.toList[0]? = some 45
  · obtain ⟨h1, h2⟩ := hg
    have h3 : s[0] = 45 := by
      rw [← sg (by omega : 0 < s.size)]
      rw [List.getElem?_eq_getElem (by rw [sl]; omega)] at h2
      injection h2
    have h4 : (s[0].toNat : Int) = 45 := by rw [h3]; rfl
    have t1 : (1 : Int) < (s.size : Int) := by omega
    have t2 : (1 : Int) ≤ (s.size : Int) := by omega
    clear h3
    have ht : (s.extract 1 s.size).data.toList = s.data.toList.drop 1 := ex_tail s 1
    have SG0 : Sgn s (s.extract 1 s.size) true := by
      have e : s.data.toList = 45 :: s.data.toList.drop 1 := by
        cases hl : s.data.toList with
        | nil => rw [hl] at h2; simp at h2
        | cons a r => rw [hl] at h2; simp at h2; subst h2; rfl
      refine .inl ⟨rfl, by rw [ht]; exact e, h1, ?_⟩
      rw [← sl, ht, List.length_drop, sl]; omega
    clear h2 ht
    go_enter Tryd.func29, Tryd.ntmps29
    go_upto_region 4 with (fail)
    generalize s.extract 1 s.size = t at *
    have t5 : (t.size : Int) < (s.size : Int) := by rcases SG0 with ⟨_, _, _, h⟩ | ⟨h, _⟩ <;> first | omega | cases h
    have SG := Lib.hid SG0
    clear SG0 h4
    go_wp2_with (fail)
    refine (specIn _ 1 6 _).mono ?_; rintro e w' ⟨rfl, rfl⟩
    cases g1 : inB (t.size : Int) 1 6 with
    | false =>
      go_wp2_with (fail)
      go_ret2
      exact ⟨_, _, rfl, fun z h0 h1 hz => by
        have h6 := (sgn_num SG.out h0 h1 hz).2.2
        have := inB_false.1 g1
        omega, Below.refl _ _⟩
    | true =>
      have hb := inB_true.1 g1
      have hb6 : t.size ≤ 6 := by omega
      clear g1 hb
      go_wp2_with (fail)
      go_loop [5, 6] (fun n i => ∃ k : Nat, k ≤ t.size ∧ i = .int .i64 k ∧ n = .int .i64 (dv (t.data.toList.take k)) ∧ Hid (∀ m (hm : m < t.size), m < k → isD t[m])) (fun _ i => t.size - (intOf i).toNat)
      case atStart => exact ⟨0, Nat.zero_le _, rfl, by simp [dv], (fun m _ hm => absurd hm (by omega) : ∀ m (hm : m < t.size), m < 0 → isD t[m])⟩
      case round =>
        obtain ⟨k, hk, rfl, rfl, H⟩ := hrel
        have bd := dv_bd6 (l := t.data.toList.take k) (by rw [List.length_take, sl]; omega) (isD_take H.out)
        by_cases hlt : k < t.size
        · by_cases q1 : t[k].toNat < 48
          · have q1' : (t[k].toNat : Int) < 48 := by omega
            have NX := Lib.hid (show ∀ z, -999999 ≤ z → z ≤ 999999 → s.data.toList = Lib.itoa z → (0 : Int) = z from fun z h0 h1 hz => by
              have := num_dig (sgn_num SG.out h0 h1 hz).1 hlt
              unfold isD at this
              omega)
            clear bd
            go_wp2
            exact bodyPost_ret (v := .tuple #[.int .i64 0, .bool false]) (by simp [results, Tryd.results29, go_sem]) rfl ⟨0, false, rfl, NX.out, Below.refl _ _⟩
          · by_cases q2 : 57 < t[k].toNat
            · have q1' : ¬ (t[k].toNat : Int) < 48 := by omega
              have q2' : (57 : Int) < (t[k].toNat : Int) := by omega
              have NX := Lib.hid (show ∀ z, -999999 ≤ z → z ≤ 999999 → s.data.toList = Lib.itoa z → (0 : Int) = z from fun z h0 h1 hz => by
                have := num_dig (sgn_num SG.out h0 h1 hz).1 hlt
                unfold isD at this
                omega)
              clear bd
              go_wp2
              exact bodyPost_ret (v := .tuple #[.int .i64 0, .bool false]) (by simp [results, Tryd.results29, go_sem]) rfl ⟨0, false, rfl, NX.out, Below.refl _ _⟩
            · have q1' : ¬ (t[k].toNat : Int) < 48 := by omega
              have q2' : ¬ (57 : Int) < (t[k].toNat : Int) := by omega
              have HD := Lib.hid (show isD t[k] from ⟨by omega, by omega⟩)
              have DS := Lib.hid (dv_step hlt)
              generalize dv (t.data.toList.take k) = n at *
              have y1 : IntKind.u8.wrap ((t[k].toNat : Int) - 48) = (t[k].toNat : Int) - 48 := by unfold IntKind.wrap; simp [IntKind.bits, IntKind.signed]; omega
              have y2 : IntKind.i64.wrap (10 * n) = 10 * n := IntWalk.i64_in _ (by omega)
              have y3 : IntKind.i64.wrap (10 * n + ((t[k].toNat : Int) - 48)) = 10 * n + ((t[k].toNat : Int) - 48) := IntWalk.i64_in _ (by omega)
              clear bd
              go_wp2
              go_round
              case rel => exact ⟨k + 1, by omega, by go_num, by rw [DS.out], (fun m hm hm2 => by
                by_cases e : m = k
                · subst e; exact HD.out
                · exact H.out m hm (by omega) : ∀ m (hm : m < t.size), m < k + 1 → isD t[m])⟩
              case measure => simp [intOf]; omega
        · obtain rfl : k = t.size := by omega
          have ET : t.data.toList.take t.size = t.data.toList := by rw [← sl]; exact List.take_length
          rw [ET] at bd ⊢
          have DN := Lib.hid (show ∀ z, -999999 ≤ z → z ≤ 999999 → s.data.toList = Lib.itoa z → -dv t.data.toList = z from fun z h0 h1 hz => by
            have sn := sgn_num SG.out h0 h1 hz
            rw [sn.1, dv_dd]
            have := sn.2.1
            simp at this
            omega)
          generalize dv t.data.toList = n at *
          have y2 : IntKind.i64.wrap (-n) = -n := IntWalk.i64_in _ (by omega)
          have NB := Lib.hid bd
          clear ET H hk hlt
          go_wp2_with (fail)
          refine (l1NumC (-n) (by have := NB.out; omega) (by have := NB.out; omega) _).mono ?_; rintro e w9 ⟨rfl, b9⟩
          by_cases he : num (-n) = s
          · have HE := Lib.hid he
            rw [he]
            clear he
            go_wp2_with (fail)
            go_ret2
            exact ⟨_, _, rfl, fun z h0 h1 hz => DN.out z h0 h1 hz, b9⟩
          · have HE := Lib.hid he
            obtain ⟨e1, e2⟩ := ba_ne he
            clear he
            go_wp2_with (fail)
            go_ret2
            exact ⟨_, _, rfl, fun z h0 h1 hz => absurd (by rw [DN.out z h0 h1 hz]; exact (num_of hz).symm) HE.out, b9⟩
  · have SG := Lib.hid (show Sgn s s false from .inr ⟨rfl, rfl, hg⟩)
    by_cases h1 : 1 < s.size
    · have h3 : ¬ (s[0].toNat : Int) = 45 := by
        intro e
        apply hg
        refine ⟨h1, ?_⟩
        rw [List.getElem?_eq_getElem (by rw [sl]; omega), sg (by omega)]
        congr 1
        exact UInt8.toNat_inj.1 (by rw [show (45 : UInt8).toNat = 45 from rfl]; omega)
      have t1 : (1 : Int) < (s.size : Int) := by omega
      clear hg
      go_enter Tryd.func29, Tryd.ntmps29
      go_upto_region 4 with (fail)
      clear h3
      go_wp2_with (fail)
      refine (specIn _ 1 6 _).mono ?_; rintro e w' ⟨rfl, rfl⟩
      cases g1 : inB (s.size : Int) 1 6 with
      | false =>
        go_wp2_with (fail)
        go_ret2
        exact ⟨_, _, rfl, fun z h0 h1 hz => by
          have h6 := (sgn_num SG.out h0 h1 hz).2.2
          have := inB_false.1 g1
          omega, Below.refl _ _⟩
      | true =>
        have hb := inB_true.1 g1
        have hb6 : s.size ≤ 6 := by omega
        clear g1 hb
        go_wp2_with (fail)
        go_loop [5, 6] (fun n i => ∃ k : Nat, k ≤ s.size ∧ i = .int .i64 k ∧ n = .int .i64 (dv (s.data.toList.take k)) ∧ Hid (∀ m (hm : m < s.size), m < k → isD s[m])) (fun _ i => s.size - (intOf i).toNat)
        case atStart => exact ⟨0, Nat.zero_le _, rfl, by simp [dv], (fun m _ hm => absurd hm (by omega) : ∀ m (hm : m < s.size), m < 0 → isD s[m])⟩
        case round =>
          obtain ⟨k, hk, rfl, rfl, H⟩ := hrel
          have bd := dv_bd6 (l := s.data.toList.take k) (by rw [List.length_take, sl]; omega) (isD_take H.out)
          by_cases hlt : k < s.size
          · by_cases q1 : s[k].toNat < 48
            · have q1' : (s[k].toNat : Int) < 48 := by omega
              have NX := Lib.hid (show ∀ z, -999999 ≤ z → z ≤ 999999 → s.data.toList = Lib.itoa z → (0 : Int) = z from fun z h0 h1 hz => by
                have := num_dig (sgn_num SG.out h0 h1 hz).1 hlt
                unfold isD at this
                omega)
              clear bd
              go_wp2
              exact bodyPost_ret (v := .tuple #[.int .i64 0, .bool false]) (by simp [results, Tryd.results29, go_sem]) rfl ⟨0, false, rfl, NX.out, Below.refl _ _⟩
            · by_cases q2 : 57 < s[k].toNat
              · have q1' : ¬ (s[k].toNat : Int) < 48 := by omega
                have q2' : (57 : Int) < (s[k].toNat : Int) := by omega
                have NX := Lib.hid (show ∀ z, -999999 ≤ z → z ≤ 999999 → s.data.toList = Lib.itoa z → (0 : Int) = z from fun z h0 h1 hz => by
                  have := num_dig (sgn_num SG.out h0 h1 hz).1 hlt
                  unfold isD at this
                  omega)
                clear bd
                go_wp2
                exact bodyPost_ret (v := .tuple #[.int .i64 0, .bool false]) (by simp [results, Tryd.results29, go_sem]) rfl ⟨0, false, rfl, NX.out, Below.refl _ _⟩
              · have q1' : ¬ (s[k].toNat : Int) < 48 := by omega
                have q2' : ¬ (57 : Int) < (s[k].toNat : Int) := by omega
                have HD := Lib.hid (show isD s[k] from ⟨by omega, by omega⟩)
                have DS := Lib.hid (dv_step hlt)
                generalize dv (s.data.toList.take k) = n at *
                have y1 : IntKind.u8.wrap ((s[k].toNat : Int) - 48) = (s[k].toNat : Int) - 48 := by unfold IntKind.wrap; simp [IntKind.bits, IntKind.signed]; omega
                have y2 : IntKind.i64.wrap (10 * n) = 10 * n := IntWalk.i64_in _ (by omega)
                have y3 : IntKind.i64.wrap (10 * n + ((s[k].toNat : Int) - 48)) = 10 * n + ((s[k].toNat : Int) - 48) := IntWalk.i64_in _ (by omega)
                clear bd
                go_wp2
                go_round
                case rel => exact ⟨k + 1, by omega, by go_num, by rw [DS.out], (fun m hm hm2 => by
                  by_cases e : m = k
                  · subst e; exact HD.out
                  · exact H.out m hm (by omega) : ∀ m (hm : m < s.size), m < k + 1 → isD s[m])⟩
                case measure => simp [intOf]; omega
          · obtain rfl : k = s.size := by omega
            have ET : s.data.toList.take s.size = s.data.toList := by rw [← sl]; exact List.take_length
            rw [ET] at bd ⊢
            have DN := Lib.hid (show ∀ z, -999999 ≤ z → z ≤ 999999 → s.data.toList = Lib.itoa z → dv s.data.toList = z from fun z h0 h1 hz => by
              have sn := sgn_num SG.out h0 h1 hz
              rw [sn.1, dv_dd]
              have := sn.2.1
              simp at this
              omega)
            generalize dv s.data.toList = n at *
            have y2 : IntKind.i64.wrap (-n) = -n := IntWalk.i64_in _ (by omega)
            have NB := Lib.hid bd
            clear ET H hk hlt
            go_wp2_with (fail)
            refine (l1NumC n (by have := NB.out; omega) (by have := NB.out; omega) _).mono ?_; rintro e w9 ⟨rfl, b9⟩
            by_cases he : num n = s
            · have HE := Lib.hid he
              rw [he]
              clear he
              go_wp2_with (fail)
              go_ret2
              exact ⟨_, _, rfl, fun z h0 h1 hz => DN.out z h0 h1 hz, b9⟩
            · have HE := Lib.hid he
              obtain ⟨e1, e2⟩ := ba_ne he
              clear he
              go_wp2_with (fail)
              go_ret2
              exact ⟨_, _, rfl, fun z h0 h1 hz => absurd (by rw [DN.out z h0 h1 hz]; exact (num_of hz).symm) HE.out, b9⟩
    · have t1 : ¬ (1 : Int) < (s.size : Int) := by omega
      clear hg
      go_enter Tryd.func29, Tryd.ntmps29
      go_upto_region 4 with (fail)
      go_wp2_with (fail)
      refine (specIn _ 1 6 _).mono ?_; rintro e w' ⟨rfl, rfl⟩
      cases g1 : inB (s.size : Int) 1 6 with
      | false =>
        go_wp2_with (fail)
        go_ret2
        exact ⟨_, _, rfl, fun z h0 h1 hz => by
          have h6 := (sgn_num SG.out h0 h1 hz).2.2
          have := inB_false.1 g1
          omega, Below.refl _ _⟩
      | true =>
        have hb := inB_true.1 g1
        have hb6 : s.size ≤ 6 := by omega
        clear g1 hb
        go_wp2_with (fail)
        go_loop [5, 6] (fun n i => ∃ k : Nat, k ≤ s.size ∧ i = .int .i64 k ∧ n = .int .i64 (dv (s.data.toList.take k)) ∧ Hid (∀ m (hm : m < s.size), m < k → isD s[m])) (fun _ i => s.size - (intOf i).toNat)
        case atStart => exact ⟨0, Nat.zero_le _, rfl, by simp [dv], (fun m _ hm => absurd hm (by omega) : ∀ m (hm : m < s.size), m < 0 → isD s[m])⟩
        case round =>
          obtain ⟨k, hk, rfl, rfl, H⟩ := hrel
          have bd := dv_bd6 (l := s.data.toList.take k) (by rw [List.length_take, sl]; omega) (isD_take H.out)
          by_cases hlt : k < s.size
          · by_cases q1 : s[k].toNat < 48
            · have q1' : (s[k].toNat : Int) < 48 := by omega
              have NX := Lib.hid (show ∀ z, -999999 ≤ z → z ≤ 999999 → s.data.toList = Lib.itoa z → (0 : Int) = z from fun z h0 h1 hz => by
                have := num_dig (sgn_num SG.out h0 h1 hz).1 hlt
                unfold isD at this
                omega)
              clear bd
              go_wp2
              exact bodyPost_ret (v := .tuple #[.int .i64 0, .bool false]) (by simp [results, Tryd.results29, go_sem]) rfl ⟨0, false, rfl, NX.out, Below.refl _ _⟩
            · by_cases q2 : 57 < s[k].toNat
              · have q1' : ¬ (s[k].toNat : Int) < 48 := by omega
                have q2' : (57 : Int) < (s[k].toNat : Int) := by omega
                have NX := Lib.hid (show ∀ z, -999999 ≤ z → z ≤ 999999 → s.data.toList = Lib.itoa z → (0 : Int) = z from fun z h0 h1 hz => by
                  have := num_dig (sgn_num SG.out h0 h1 hz).1 hlt
                  unfold isD at this
                  omega)
                clear bd
                go_wp2
                exact bodyPost_ret (v := .tuple #[.int .i64 0, .bool false]) (by simp [results, Tryd.results29, go_sem]) rfl ⟨0, false, rfl, NX.out, Below.refl _ _⟩
              · have q1' : ¬ (s[k].toNat : Int) < 48 := by omega
                have q2' : ¬ (57 : Int) < (s[k].toNat : Int) := by omega
                have HD := Lib.hid (show isD s[k] from ⟨by omega, by omega⟩)
                have DS := Lib.hid (dv_step hlt)
                generalize dv (s.data.toList.take k) = n at *
                have y1 : IntKind.u8.wrap ((s[k].toNat : Int) - 48) = (s[k].toNat : Int) - 48 := by unfold IntKind.wrap; simp [IntKind.bits, IntKind.signed]; omega
                have y2 : IntKind.i64.wrap (10 * n) = 10 * n := IntWalk.i64_in _ (by omega)
                have y3 : IntKind.i64.wrap (10 * n + ((s[k].toNat : Int) - 48)) = 10 * n + ((s[k].toNat : Int) - 48) := IntWalk.i64_in _ (by omega)
                clear bd
                go_wp2
                go_round
                case rel => exact ⟨k + 1, by omega, by go_num, by rw [DS.out], (fun m hm hm2 => by
                  by_cases e : m = k
                  · subst e; exact HD.out
                  · exact H.out m hm (by omega) : ∀ m (hm : m < s.size), m < k + 1 → isD s[m])⟩
                case measure => simp [intOf]; omega
          · obtain rfl : k = s.size := by omega
            have ET : s.data.toList.take s.size = s.data.toList := by rw [← sl]; exact List.take_length
            rw [ET] at bd ⊢
            have DN := Lib.hid (show ∀ z, -999999 ≤ z → z ≤ 999999 → s.data.toList = Lib.itoa z → dv s.data.toList = z from fun z h0 h1 hz => by
              have sn := sgn_num SG.out h0 h1 hz
              rw [sn.1, dv_dd]
              have := sn.2.1
              simp at this
              omega)
            generalize dv s.data.toList = n at *
            have y2 : IntKind.i64.wrap (-n) = -n := IntWalk.i64_in _ (by omega)
            have NB := Lib.hid bd
            clear ET H hk hlt
            go_wp2_with (fail)
            refine (l1NumC n (by have := NB.out; omega) (by have := NB.out; omega) _).mono ?_; rintro e w9 ⟨rfl, b9⟩
            by_cases he : num n = s
            · have HE := Lib.hid he
              rw [he]
              clear he
              go_wp2_with (fail)
              go_ret2
              exact ⟨_, _, rfl, fun z h0 h1 hz => DN.out z h0 h1 hz, b9⟩
            · have HE := Lib.hid he
              obtain ⟨e1, e2⟩ := ba_ne he
              clear he
              go_wp2_with (fail)
              go_ret2
              exact ⟨_, _, rfl, fun z h0 h1 hz => absurd (by rw [DN.out z h0 h1 hz]; exact (num_of hz).symm) HE.out, b9⟩
end Go.Proofs.YtllionelhbjadaaDoor
