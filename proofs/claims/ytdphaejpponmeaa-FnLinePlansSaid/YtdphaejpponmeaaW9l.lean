/- SailedOrder and TurnsOf of both texts: what they return. Lists of at most 1048576 lines. -/
import Derived.Test.YtdphaejpponmeaaW9j
import Derived.Test.YtdphaejpponmeaaW9k
import Derived.Test.YtdphaejpponmeaaInts
import Derived.Test.YtdphaejpponmeaaOut5
set_option linter.unusedVariables false
set_option linter.unusedSimpArgs false
namespace Go.Proofs.Ytdphaejpponmeaa
open Go.RowKit
set_option maxHeartbeats 4000000
set_option maxRecDepth 100000
theorem infoJ : (Try.prog.info? 3).map (fun i => (i.zero, i.size, i.bytes)) = some (some (.int .i64 0), 1, 8) := by kernel_rfl
def ids (l : List Ln) : List Int := (ordL l).map Ln.id
theorem ids_len (l : List Ln) : (ids l).length = (ordL l).length := by simp [ids]
theorem ids_take {l : List Ln} {k : Nat} (h : k < (ordL l).length) : (ids l).take (k + 1) = (ids l).take k ++ [(ordL l)[k].id] := by
  rw [List.take_add_one, List.getElem?_eq_getElem (by rw [ids_len]; exact h)]
  simp [ids]
theorem sSailed (A : Option Addr) (c : Nat) (l : List Ln) (w : World) (h : Sl 5 Ln.enc w A l) (hn : l.length ≤ 1048576) (_hc : l.length ≤ c) :
    Calls Try.prog 42 #[.slice A l.length c] w (retL 1 encI w (soL l) (toOk l)) := by
  go_enter Try.func42, Try.ntmps42
  go_wp2_with (fail)
  generalize hW : World.alloc w _ = W1
  have hO : OutS 1 encI w.heap.size 3 W1 (.slice (some ⟨w.heap.size, 0, none⟩) 0 0) ([] : List Int) := by rw [← hW]; exact OutS.empty (Nat.le_refl _)
  have b1 : Below w.heap.size w W1 := by rw [← hW]; exact below_alloc _ _
  have hz1 : w.heap.size < W1.heap.size := by rw [← hW]; simp
  clear hW
  refine (s9Good A c l _ (h.below b1) hn).mono ?_; rintro e w2 ⟨rfl, b2⟩
  have O2 := hO.below b2
  have hz2 : w.heap.size < w2.heap.size := by have := b2.size; have := hz1; omega
  have b2 := bth b1 b2
  clear hO b1
  cases g : lnGood l with
  | false =>
    obtain ⟨e1, e2⟩ := so_bad g
    have E1 := Lib.hid e1
    have E2 := Lib.hid e2
    clear e1 e2 g
    go_wp2_with (fail)
    go_ret2
    rw [E2.out, E1.out]
    exact ⟨_, _, rfl, Fr.nil b2⟩
  | true =>
    obtain ⟨e1, e2⟩ := so_good g
    have E1 := Lib.hid e1
    have E2 := Lib.hid (show soL l = ids l from e2)
    have h8 := lnGood_len g
    have hol : (ordL l).length ≤ 8 := by rw [ordL_len]; exact h8
    clear e1 e2 g
    go_wp2_with (fail)
    refine (sOrd A c l _ (h.below b2) h8).mono ?_; rintro e w3 ⟨A3, c3, rfl, s3, b3, hA3⟩
    have NB0 : Apart (.slice (some ⟨w.heap.size, 0, none⟩) 0 0) A3 := fun a ha e => by
      have e' : w.heap.size = a.block := Option.some.inj e
      have := hA3 a ha
      have := hz2
      omega
    have O3 := O2.below b3
    have b3 := bth b2 b3
    go_wp2_with (fail)
    go_loopw [4, 6] (fun v i wr => ∃ k : Nat, k ≤ (ordL l).length ∧ i = .int .i64 k ∧ Hid (OutS 1 encI w.heap.size 3 wr v ((ids l).take k)) ∧ Below w.heap.size w wr ∧ Hid (Sl 5 Ln.enc wr A3 (ordL l)) ∧ Hid (Apart v A3)) (fun _ i _ => (ordL l).length - (intOf i).toNat)
    case atStart => exact ⟨0, Nat.zero_le _, rfl, O3, b3, s3, NB0⟩
    case round =>
      clear O3 O2 s3
      obtain ⟨k, hk, rfl, HO, C, HS, NB⟩ := hrel
      by_cases hlt : k < (ordL l).length
      · obtain ⟨b, off, rfl⟩ := HS.out.addr (by omega)
        obtain ⟨hbl, c0, c1, c2, c3, c4⟩ := Ln.get HS.out hlt
        have HT := Lib.hid (ids_take hlt)
        go_wp2_with (at_builtin; refine wp_appB (K := 1) (bytes := 8) (enc := encI) encI_len encI_one (by decide) (by decide) _ rfl (.tmp 20) (.tmp 26) _ rfl Try.underlying51 infoJ rfl _ _ rfl (HO.out.below (by go_grown)) (ordL l)[k].id _ rfl (by intro j u hu; exact app_cell (by simp) hu) (by rw [List.length_take]; omega) (by have := C.size; simp; omega) ?_; intro v' W4 hO2 hg2 hb4 hob)
        have C4 : Below w.heap.size w W4 := (bth C (by go_grown : Below wr.heap.size wr _)).trans hb4
        have S4 := (HS.out.below (by go_grown)).grown hg2 NB.out
        have hlt3 : ∀ a, some (⟨b, off, none⟩ : Addr) = some a → a.block < wr.heap.size := fun a ha => by injection ha with ha; subst ha; exact hbl
        refine ⟨⟨k + 1, by omega, by go_num, (by rw [HT.out]; exact hO2 : OutS 1 encI w.heap.size 3 W4 v' ((ids l).take (k + 1))), C4, Lib.hid S4, Lib.hid (NB.out.next hob (fun a ha => Nat.lt_of_lt_of_le (hlt3 a ha) (Below.size (by go_grown : Below wr.heap.size wr _))))⟩, by simp [intOf]; omega⟩
      · obtain rfl : k = (ordL l).length := by omega
        have HF := HO.out
        rw [← ids_len, List.take_length] at HF
        obtain ⟨B, c', hv, _, hs', ho, hbk⟩ := HF.sl encI_len
        subst hv
        clear HF HO
        go_wp2_with (fail)
        go_ret2
        rw [E2.out, E1.out]
        exact ⟨B, c', rfl, C, hs', ho, fun a ha _ => hbk a ha⟩
theorem iSailed (A : Option Addr) (c : Nat) (l : List Ln) (w : World) (h : Sl 5 Ln.enc w A l) (hn : l.length ≤ 1048576) (_hc : l.length ≤ c) :
    Calls Try.prog 43 #[.slice A l.length c] w (retL 1 encI w (soL l) (toOk l)) := by
  go_enter Try.func43, Try.ntmps43
  go_wp2_with (fail)
  refine (i9Good A c l _ h hn).mono ?_; rintro e w1 ⟨rfl, b1⟩
  cases g : lnGood l with
  | false =>
    obtain ⟨e1, e2⟩ := so_bad g
    have E1 := Lib.hid e1
    have E2 := Lib.hid e2
    clear e1 e2 g
    go_wp2_with (fail)
    go_ret2
    rw [E2.out, E1.out]
    exact ⟨_, _, rfl, Fr.nil b1⟩
  | true =>
    obtain ⟨e1, e2⟩ := so_good g
    have E1 := Lib.hid e1
    have E2 := Lib.hid (show soL l = ids l from e2)
    have h8 := lnGood_len g
    have hol : (ordL l).length ≤ 8 := by rw [ordL_len]; exact h8
    clear e1 e2 g
    go_wp2_with (fail)
    generalize hW : World.alloc w1 _ = W2
    have O2 : OutS 1 encI w.heap.size 3 W2 (.slice (some ⟨w1.heap.size, 0, none⟩) 0 0) ([] : List Int) := by rw [← hW]; exact OutS.empty b1.size
    have bW : Below w1.heap.size w1 W2 := by rw [← hW]; exact below_alloc _ _
    have hz1 : w1.heap.size < W2.heap.size := by rw [← hW]; simp
    have b2 := bth b1 bW
    clear hW bW
    refine (iSail A c l _ (h.below b2) h8).mono ?_; rintro e w3 ⟨A3, c3, rfl, s3, b3, hA3⟩
    have NB0 : Apart (.slice (some ⟨w1.heap.size, 0, none⟩) 0 0) A3 := fun a ha e => by
      have e' : w1.heap.size = a.block := Option.some.inj e
      have := hA3 a ha
      omega
    have O3 := O2.below b3
    have b3 := bth b2 b3
    go_wp2_with (fail)
    go_loopw [4, 14] (fun v i wr => ∃ k : Nat, k ≤ (ordL l).length ∧ i = .int .i64 k ∧ Hid (OutS 1 encI w.heap.size 3 wr v ((ids l).take k)) ∧ Below w.heap.size w wr ∧ Hid (Sl 5 Ln.enc wr A3 (ordL l)) ∧ Hid (Apart v A3)) (fun _ i _ => (ordL l).length - (intOf i).toNat)
    case atStart => exact ⟨0, Nat.zero_le _, rfl, O3, b3, s3, NB0⟩
    case round =>
      clear O3 O2 s3
      obtain ⟨k, hk, rfl, HO, C, HS, NB⟩ := hrel
      by_cases hlt : k < (ordL l).length
      · obtain ⟨b, off, rfl⟩ := HS.out.addr (by omega)
        obtain ⟨hbl, c0, c1, c2, c3, c4⟩ := Ln.get HS.out hlt
        have HT := Lib.hid (ids_take hlt)
        go_wp2_with (at_builtin; refine wp_appB (K := 1) (bytes := 8) (enc := encI) encI_len encI_one (by decide) (by decide) _ rfl (.tmp 18) (.tmp 21) _ rfl Try.underlying51 infoJ rfl _ _ rfl (HO.out.below (by go_grown)) (ordL l)[k].id _ rfl (by intro j u hu; exact app_cell (by simp) hu) (by rw [List.length_take]; omega) (by have := C.size; simp; omega) ?_; intro v' W4 hO2 hg2 hb4 hob)
        have C4 : Below w.heap.size w W4 := (bth C (by go_grown : Below wr.heap.size wr _)).trans hb4
        have S4 := (HS.out.below (by go_grown)).grown hg2 NB.out
        have hlt3 : ∀ a, some (⟨b, off, none⟩ : Addr) = some a → a.block < wr.heap.size := fun a ha => by injection ha with ha; subst ha; exact hbl
        refine ⟨⟨k + 1, by omega, by go_num, (by rw [HT.out]; exact hO2 : OutS 1 encI w.heap.size 3 W4 v' ((ids l).take (k + 1))), C4, Lib.hid S4, Lib.hid (NB.out.next hob (fun a ha => Nat.lt_of_lt_of_le (hlt3 a ha) (Below.size (by go_grown : Below wr.heap.size wr _))))⟩, by simp [intOf]; omega⟩
      · obtain rfl : k = (ordL l).length := by omega
        have HF := HO.out
        rw [← ids_len, List.take_length] at HF
        obtain ⟨B, c', hv, _, hs', ho, hbk⟩ := HF.sl encI_len
        subst hv
        clear HF HO
        go_wp2_with (fail)
        go_ret2
        rw [E2.out, E1.out]
        exact ⟨B, c', rfl, C, hs', ho, fun a ha _ => hbk a ha⟩
theorem ab_max (n : Int) : ab n = max n (-n) := by unfold ab; omega
theorem sTurns (A : Option Addr) (c : Nat) (l : List Ln) (w : World) (h : Sl 5 Ln.enc w A l) (hn : l.length ≤ 1048576) :
    Calls Try.prog 40 #[.slice A l.length c] w fun e w' => e = .returned (.tuple #[.int .i64 (toV l), .bool (toOk l)]) ∧ Below w.heap.size w w' := by
  go_enter Try.func40, Try.ntmps40
  go_wp2_with (fail)
  refine (s9Good A c l _ h hn).mono ?_; rintro e w1 ⟨rfl, b1⟩
  cases g : lnGood l with
  | false =>
    obtain ⟨e1, e2⟩ := to_bad g
    have E1 := Lib.hid e1
    have E2 := Lib.hid e2
    clear e1 e2 g
    go_wp2
    go_ret2
    exact ⟨ret_t2 (vi E2.out.symm) (vb E1.out.symm), b1⟩
  | true =>
    obtain ⟨e1, e2⟩ := to_good g
    have E1 := Lib.hid e1
    have E2 := Lib.hid e2
    have G := Lib.hid g
    have h8 := lnGood_len g
    have hol : (ordL l).length ≤ 8 := by rw [ordL_len]; exact h8
    have OL := Lib.hid (ordL_len l)
    clear e1 e2 g
    go_wp2_with (fail)
    refine (sOrd A c l _ (h.below b1) h8).mono ?_; rintro e w3 ⟨A3, c3, rfl, s3, b3, -⟩
    have b3 := bth b1 b3
    go_wp2_with (fail)
    go_loopw [5, 6] (fun s i wr => ∃ k : Nat, 1 ≤ k ∧ k ≤ (ordL l).length + 1 ∧ ((ordL l).length < k → (ordL l).length = 0) ∧ i = .int .i64 k ∧ s = .int .i64 (tnK (ordL l) k) ∧ Below w.heap.size w wr ∧ Below w3.heap.size w3 wr) (fun _ i _ => (ordL l).length + 1 - (intOf i).toNat)
    case atStart => exact ⟨1, by omega, by omega, fun h => by omega, rfl, rfl, b3, Below.refl _ _⟩
    case round =>
      obtain ⟨k, hk1, hk, hk0, rfl, rfl, C, V⟩ := hrel
      by_cases hlt : k < (ordL l).length
      · have hst := tnS_bd G.out (show 0 < k by omega) hlt
        have htk := tnK_bd G.out k (by omega)
        obtain ⟨m, hm⟩ : ∃ m, k = m + 1 := ⟨k - 1, by omega⟩
        have hml : m < (ordL l).length := by omega
        have gk := lnOk_bd (ordL_ok G.out hlt)
        have gm := lnOk_bd (ordL_ok G.out hml)
        have hy : ((ordL l)[m]'hml).y ≤ ((ordL l)[k]'hlt).y := ordL_srt l m k (by omega) hlt
        have HN := Lib.hid (show tnK (ordL l) (k + 1) = tnK (ordL l) k + ((ordL l)[k].y - (ordL l)[m].y + ab (if k % 2 = 1 then (ordL l)[m].to - (ordL l)[k].to else (ordL l)[m].frm - (ordL l)[k].frm)) by
          rw [tnK, if_neg (by omega), tnS, show k - 1 = m by omega, lni_of hlt, lni_of hml])
        obtain ⟨bl, off, rfl⟩ := s3.addr (by omega)
        obtain ⟨hbl, c0, c1, c2, c3, c4⟩ := Ln.get (s3.below V) hml
        obtain ⟨_, d0, d1, d2, d3, d4⟩ := Ln.get (s3.below V) hlt
        have hA := aft_cell hbl
        have u1 : (0 : Int) ≤ (k : Int) := by omega
        have u2 : (k : Int) < ((ordL l).length : Int) := by omega
        have t2 : (0 : Int) ≤ (k : Int) - 1 := by omega
        have t3 : (k : Int) - 1 < ((ordL l).length : Int) := by omega
        have t4 : ((k : Int) - 1).toNat = m := by omega
        have t5 : (1 : Int) ≤ (k : Int) := by omega
        have t6 : 0 < k := by omega
        have t7 : IntKind.i64.wrap ((k : Int) - 1) = (k : Int) - 1 := IntWalk.i64_in _ (by omega)
        have t8 : k - 1 = m := by omega
        have HM := Lib.hid hm
        clear hm hst
        go_wp2_with (fail)
        have KT : ∀ w', Below wr.heap.size wr w' → Below wr.heap.size wr w' ∧ w'.cell? ⟨bl, off + m * 5, none⟩ = some (.int .i64 (ordL l)[m].id) ∧ w'.cell? ⟨bl, off + m * 5 + 1, none⟩ = some (.int .i64 (ordL l)[m].y) ∧ w'.cell? ⟨bl, off + m * 5 + 2, none⟩ = some (.int .i64 (ordL l)[m].frm) ∧ w'.cell? ⟨bl, off + m * 5 + 3, none⟩ = some (.int .i64 (ordL l)[m].to) ∧ w'.cell? ⟨bl, off + m * 5 + 4, none⟩ = some (.int .i64 (ordL l)[m].swath) ∧ w'.cell? ⟨bl, off + k * 5, none⟩ = some (.int .i64 (ordL l)[k].id) ∧ w'.cell? ⟨bl, off + k * 5 + 1, none⟩ = some (.int .i64 (ordL l)[k].y) ∧ w'.cell? ⟨bl, off + k * 5 + 2, none⟩ = some (.int .i64 (ordL l)[k].frm) ∧ w'.cell? ⟨bl, off + k * 5 + 3, none⟩ = some (.int .i64 (ordL l)[k].to) ∧ w'.cell? ⟨bl, off + k * 5 + 4, none⟩ = some (.int .i64 (ordL l)[k].swath) := fun w' hw => by
            have q := fun o => hw.cell (p := ⟨bl, o, none⟩) hbl
            exact ⟨hw, by rw [q, c0], by rw [q, c1], by rw [q, c2], by rw [q, c3], by rw [q, c4], by rw [q, d0], by rw [q, d1], by rw [q, d2], by rw [q, d3], by rw [q, d4]⟩
        have KT := Lib.hid KT
        clear c0 c1 c2 c3 c4 d0 d1 d2 d3 d4 hA
        go_region_held3 (fun w' => Below wr.heap.size wr w' ∧ w'.cell? ⟨bl, off + m * 5, none⟩ = some (.int .i64 (ordL l)[m].id) ∧ w'.cell? ⟨bl, off + m * 5 + 1, none⟩ = some (.int .i64 (ordL l)[m].y) ∧ w'.cell? ⟨bl, off + m * 5 + 2, none⟩ = some (.int .i64 (ordL l)[m].frm) ∧ w'.cell? ⟨bl, off + m * 5 + 3, none⟩ = some (.int .i64 (ordL l)[m].to) ∧ w'.cell? ⟨bl, off + m * 5 + 4, none⟩ = some (.int .i64 (ordL l)[m].swath) ∧ w'.cell? ⟨bl, off + k * 5, none⟩ = some (.int .i64 (ordL l)[k].id) ∧ w'.cell? ⟨bl, off + k * 5 + 1, none⟩ = some (.int .i64 (ordL l)[k].y) ∧ w'.cell? ⟨bl, off + k * 5 + 2, none⟩ = some (.int .i64 (ordL l)[k].frm) ∧ w'.cell? ⟨bl, off + k * 5 + 3, none⟩ = some (.int .i64 (ordL l)[k].to) ∧ w'.cell? ⟨bl, off + k * 5 + 4, none⟩ = some (.int .i64 (ordL l)[k].swath))
          ((refine KT.out _ ?_; go_grown))
          (fail)
        all_goals
          generalize hW : World.drew _ = W2
          obtain ⟨bW, kA, kB⟩ := two_facts hW
          clear hW
          have m1 := kA.2.1 1 _ rfl
          have m2 := kA.2.1 2 _ rfl
          have m3 := kA.2.1 3 _ rfl
          have n1 := kB.2.1 1 _ rfl
          have n2 := kB.2.1 2 _ rfl
          have n3 := kB.2.1 3 _ rfl
          have lA := aft_cell kA.1
          have lB := aft_cell kB.1
          have C2 := bth C bW
          have V2 := bth V bW
          clear kA kB C V bW
          have x1 : IntKind.i64.wrap ((ordL l)[m].to - (ordL l)[k].to) = (ordL l)[m].to - (ordL l)[k].to := IntWalk.i64_in _ (by omega)
          have x2 : IntKind.i64.wrap ((ordL l)[m].frm - (ordL l)[k].frm) = (ordL l)[m].frm - (ordL l)[k].frm := IntWalk.i64_in _ (by omega)
          by_cases hp : k % 2 = 1
          · have r1 : (k : Int) % 2 = 1 := by omega
            have r2 : ((k : Int) % 2 == 0) = false := by rw [r1]; rfl
            have r3 : ¬ (k : Int) % 2 = 0 := by omega
            have r4 : ((k : Int) % 2 == 1) = true := by rw [r1]; rfl
            rw [if_pos hp] at HN
            have z1 : IntKind.i64.wrap (tnK (ordL l) k + (ordL l)[k].y) = tnK (ordL l) k + (ordL l)[k].y := IntWalk.i64_in _ (by omega)
            have z2 : IntKind.i64.wrap (tnK (ordL l) k + (ordL l)[k].y - (ordL l)[m].y) = tnK (ordL l) k + (ordL l)[k].y - (ordL l)[m].y := IntWalk.i64_in _ (by omega)
            have z3 : IntKind.i64.wrap (-((ordL l)[m].to - (ordL l)[k].to)) = -((ordL l)[m].to - (ordL l)[k].to) := IntWalk.i64_in _ (by omega)
            have z4 : IntKind.i64.wrap (tnK (ordL l) k + (ordL l)[k].y - (ordL l)[m].y + max ((ordL l)[m].to - (ordL l)[k].to) (-((ordL l)[m].to - (ordL l)[k].to))) = tnK (ordL l) k + (ordL l)[k].y - (ordL l)[m].y + max ((ordL l)[m].to - (ordL l)[k].to) (-((ordL l)[m].to - (ordL l)[k].to)) := IntWalk.i64_in _ (by omega)
            go_wp2_with (fail)
            refine wp_region_aft (by kernel_rfl) (by kernel_rfl) ?_
            repeat (go_big_quiet_step ((go_at_call 75; exact Aft.pure _ (specMost _ _ _))))
            refine wpQuiet_nil ?_
            intro w9 b9
            have C9 := bth C2 b9
            have V9 := bth V2 b9
            go_wp2_with (fail)
            go_roundw
            case rel => exact ⟨k + 1, by omega, by omega, fun h => by omega, by go_num, vi (by rw [HN.out, ab_max]; omega), C9, V9⟩
            case measure => simp [intOf]; omega
          · have r1 : (k : Int) % 2 = 0 := by omega
            have r2 : ((k : Int) % 2 == 0) = true := by rw [r1]; rfl
            have r3 : ¬ (k : Int) % 2 = 1 := by omega
            have r4 : ((k : Int) % 2 == 1) = false := by rw [r1]; rfl
            rw [if_neg hp] at HN
            have z1 : IntKind.i64.wrap (tnK (ordL l) k + (ordL l)[k].y) = tnK (ordL l) k + (ordL l)[k].y := IntWalk.i64_in _ (by omega)
            have z2 : IntKind.i64.wrap (tnK (ordL l) k + (ordL l)[k].y - (ordL l)[m].y) = tnK (ordL l) k + (ordL l)[k].y - (ordL l)[m].y := IntWalk.i64_in _ (by omega)
            have z3 : IntKind.i64.wrap (-((ordL l)[m].frm - (ordL l)[k].frm)) = -((ordL l)[m].frm - (ordL l)[k].frm) := IntWalk.i64_in _ (by omega)
            have z4 : IntKind.i64.wrap (tnK (ordL l) k + (ordL l)[k].y - (ordL l)[m].y + max ((ordL l)[m].frm - (ordL l)[k].frm) (-((ordL l)[m].frm - (ordL l)[k].frm))) = tnK (ordL l) k + (ordL l)[k].y - (ordL l)[m].y + max ((ordL l)[m].frm - (ordL l)[k].frm) (-((ordL l)[m].frm - (ordL l)[k].frm)) := IntWalk.i64_in _ (by omega)
            go_wp2_with (fail)
            refine wp_region_aft (by kernel_rfl) (by kernel_rfl) ?_
            repeat (go_big_quiet_step ((go_at_call 75; exact Aft.pure _ (specMost _ _ _))))
            refine wpQuiet_nil ?_
            intro w9 b9
            have C9 := bth C2 b9
            have V9 := bth V2 b9
            go_wp2_with (fail)
            go_roundw
            case rel => exact ⟨k + 1, by omega, by omega, fun h => by omega, by go_num, vi (by rw [HN.out, ab_max]; omega), C9, V9⟩
            case measure => simp [intOf]; omega
      · have hk2 : (ordL l).length ≤ k := by omega
        have HE := Lib.hid (show tnK (ordL l) k = tnK (ordL l) l.length by
          by_cases e : k = (ordL l).length
          · rw [e, OL.out]
          · have h0 := hk0 (by omega)
            have : k = 1 := by omega
            have h0' := OL.out
            rw [this, ← h0', h0]; rfl)
        go_wp2_with (fail)
        go_ret2
        exact ⟨ret_t2 (vi (by rw [E2.out, HE.out])) (vb E1.out.symm), C⟩
theorem iTurns (A : Option Addr) (c : Nat) (l : List Ln) (w : World) (h : Sl 5 Ln.enc w A l) (hn : l.length ≤ 1048576) :
    Calls Try.prog 41 #[.slice A l.length c] w fun e w' => e = .returned (.tuple #[.int .i64 (toV l), .bool (toOk l)]) ∧ Below w.heap.size w w' := by
  go_enter Try.func41, Try.ntmps41
  go_wp2_with (fail)
  refine (i9Good A c l _ h hn).mono ?_; rintro e w1 ⟨rfl, b1⟩
  cases g : lnGood l with
  | false =>
    obtain ⟨e1, e2⟩ := to_bad g
    have E1 := Lib.hid e1
    have E2 := Lib.hid e2
    clear e1 e2 g
    go_wp2
    go_ret2
    exact ⟨ret_t2 (vi E2.out.symm) (vb E1.out.symm), b1⟩
  | true =>
    obtain ⟨e1, e2⟩ := to_good g
    have E1 := Lib.hid e1
    have E2 := Lib.hid e2
    have G := Lib.hid g
    have h8 := lnGood_len g
    have hol : (ordL l).length ≤ 8 := by rw [ordL_len]; exact h8
    have OL := Lib.hid (ordL_len l)
    clear e1 e2 g
    go_wp2_with (fail)
    refine (iSail A c l _ (h.below b1) h8).mono ?_; rintro e w3 ⟨A3, c3, rfl, s3, b3, -⟩
    have b3 := bth b1 b3
    go_wp2_with (fail)
    go_loopw [5, 6] (fun s i wr => ∃ k : Nat, 1 ≤ k ∧ k ≤ (ordL l).length + 1 ∧ ((ordL l).length < k → (ordL l).length = 0) ∧ i = .int .i64 k ∧ s = .int .i64 (tnK (ordL l) k) ∧ Below w.heap.size w wr ∧ Below w3.heap.size w3 wr) (fun _ i _ => (ordL l).length + 1 - (intOf i).toNat)
    case atStart => exact ⟨1, by omega, by omega, fun h => by omega, rfl, rfl, b3, Below.refl _ _⟩
    case round =>
      obtain ⟨k, hk1, hk, hk0, rfl, rfl, C, V⟩ := hrel
      by_cases hlt : k < (ordL l).length
      · have hst := tnS_bd G.out (show 0 < k by omega) hlt
        have htk := tnK_bd G.out k (by omega)
        obtain ⟨m, hm⟩ : ∃ m, k = m + 1 := ⟨k - 1, by omega⟩
        have hml : m < (ordL l).length := by omega
        have gk := lnOk_bd (ordL_ok G.out hlt)
        have gm := lnOk_bd (ordL_ok G.out hml)
        have hy : ((ordL l)[m]'hml).y ≤ ((ordL l)[k]'hlt).y := ordL_srt l m k (by omega) hlt
        have HN := Lib.hid (show tnK (ordL l) (k + 1) = tnK (ordL l) k + ((ordL l)[k].y - (ordL l)[m].y + ab (if k % 2 = 1 then (ordL l)[m].to - (ordL l)[k].to else (ordL l)[m].frm - (ordL l)[k].frm)) by
          rw [tnK, if_neg (by omega), tnS, show k - 1 = m by omega, lni_of hlt, lni_of hml])
        obtain ⟨bl, off, rfl⟩ := s3.addr (by omega)
        obtain ⟨hbl, c0, c1, c2, c3, c4⟩ := Ln.get (s3.below V) hml
        obtain ⟨_, d0, d1, d2, d3, d4⟩ := Ln.get (s3.below V) hlt
        have hA := aft_cell hbl
        have u1 : (0 : Int) ≤ (k : Int) := by omega
        have u2 : (k : Int) < ((ordL l).length : Int) := by omega
        have t2 : (0 : Int) ≤ (k : Int) - 1 := by omega
        have t3 : (k : Int) - 1 < ((ordL l).length : Int) := by omega
        have t4 : ((k : Int) - 1).toNat = m := by omega
        have t5 : (1 : Int) ≤ (k : Int) := by omega
        have t6 : 0 < k := by omega
        have t7 : IntKind.i64.wrap ((k : Int) - 1) = (k : Int) - 1 := IntWalk.i64_in _ (by omega)
        have t8 : k - 1 = m := by omega
        have HM := Lib.hid hm
        clear hm hst
        go_wp2_with (fail)
        have KT : ∀ w', Below wr.heap.size wr w' → Below wr.heap.size wr w' ∧ w'.cell? ⟨bl, off + m * 5, none⟩ = some (.int .i64 (ordL l)[m].id) ∧ w'.cell? ⟨bl, off + m * 5 + 1, none⟩ = some (.int .i64 (ordL l)[m].y) ∧ w'.cell? ⟨bl, off + m * 5 + 2, none⟩ = some (.int .i64 (ordL l)[m].frm) ∧ w'.cell? ⟨bl, off + m * 5 + 3, none⟩ = some (.int .i64 (ordL l)[m].to) ∧ w'.cell? ⟨bl, off + m * 5 + 4, none⟩ = some (.int .i64 (ordL l)[m].swath) ∧ w'.cell? ⟨bl, off + k * 5, none⟩ = some (.int .i64 (ordL l)[k].id) ∧ w'.cell? ⟨bl, off + k * 5 + 1, none⟩ = some (.int .i64 (ordL l)[k].y) ∧ w'.cell? ⟨bl, off + k * 5 + 2, none⟩ = some (.int .i64 (ordL l)[k].frm) ∧ w'.cell? ⟨bl, off + k * 5 + 3, none⟩ = some (.int .i64 (ordL l)[k].to) ∧ w'.cell? ⟨bl, off + k * 5 + 4, none⟩ = some (.int .i64 (ordL l)[k].swath) := fun w' hw => by
            have q := fun o => hw.cell (p := ⟨bl, o, none⟩) hbl
            exact ⟨hw, by rw [q, c0], by rw [q, c1], by rw [q, c2], by rw [q, c3], by rw [q, c4], by rw [q, d0], by rw [q, d1], by rw [q, d2], by rw [q, d3], by rw [q, d4]⟩
        have KT := Lib.hid KT
        clear c0 c1 c2 c3 c4 d0 d1 d2 d3 d4 hA
        go_region_held3 (fun w' => Below wr.heap.size wr w' ∧ w'.cell? ⟨bl, off + m * 5, none⟩ = some (.int .i64 (ordL l)[m].id) ∧ w'.cell? ⟨bl, off + m * 5 + 1, none⟩ = some (.int .i64 (ordL l)[m].y) ∧ w'.cell? ⟨bl, off + m * 5 + 2, none⟩ = some (.int .i64 (ordL l)[m].frm) ∧ w'.cell? ⟨bl, off + m * 5 + 3, none⟩ = some (.int .i64 (ordL l)[m].to) ∧ w'.cell? ⟨bl, off + m * 5 + 4, none⟩ = some (.int .i64 (ordL l)[m].swath) ∧ w'.cell? ⟨bl, off + k * 5, none⟩ = some (.int .i64 (ordL l)[k].id) ∧ w'.cell? ⟨bl, off + k * 5 + 1, none⟩ = some (.int .i64 (ordL l)[k].y) ∧ w'.cell? ⟨bl, off + k * 5 + 2, none⟩ = some (.int .i64 (ordL l)[k].frm) ∧ w'.cell? ⟨bl, off + k * 5 + 3, none⟩ = some (.int .i64 (ordL l)[k].to) ∧ w'.cell? ⟨bl, off + k * 5 + 4, none⟩ = some (.int .i64 (ordL l)[k].swath))
          ((refine KT.out _ ?_; go_grown))
          (fail)
        all_goals
          generalize hW : World.drew _ = W2
          obtain ⟨bW, kA, kB⟩ := two_facts hW
          clear hW
          have m1 := kA.2.1 1 _ rfl
          have m2 := kA.2.1 2 _ rfl
          have m3 := kA.2.1 3 _ rfl
          have n1 := kB.2.1 1 _ rfl
          have n2 := kB.2.1 2 _ rfl
          have n3 := kB.2.1 3 _ rfl
          have lA := aft_cell kA.1
          have lB := aft_cell kB.1
          have C2 := bth C bW
          have V2 := bth V bW
          clear kA kB C V bW
          have x1 : IntKind.i64.wrap ((ordL l)[m].to - (ordL l)[k].to) = (ordL l)[m].to - (ordL l)[k].to := IntWalk.i64_in _ (by omega)
          have x2 : IntKind.i64.wrap ((ordL l)[m].frm - (ordL l)[k].frm) = (ordL l)[m].frm - (ordL l)[k].frm := IntWalk.i64_in _ (by omega)
          by_cases hp : k % 2 = 1
          · have r1 : (k : Int) % 2 = 1 := by omega
            have r2 : ((k : Int) % 2 == 0) = false := by rw [r1]; rfl
            have r3 : ¬ (k : Int) % 2 = 0 := by omega
            have r4 : ((k : Int) % 2 == 1) = true := by rw [r1]; rfl
            rw [if_pos hp] at HN
            have z1 : IntKind.i64.wrap ((ordL l)[k].y - (ordL l)[m].y) = (ordL l)[k].y - (ordL l)[m].y := IntWalk.i64_in _ (by omega)
            have z2 : IntKind.i64.wrap (tnK (ordL l) k + ((ordL l)[k].y - (ordL l)[m].y)) = tnK (ordL l) k + ((ordL l)[k].y - (ordL l)[m].y) := IntWalk.i64_in _ (by omega)
            have z4 : IntKind.i64.wrap (tnK (ordL l) k + ((ordL l)[k].y - (ordL l)[m].y) + ab ((ordL l)[m].to - (ordL l)[k].to)) = tnK (ordL l) k + ((ordL l)[k].y - (ordL l)[m].y) + ab ((ordL l)[m].to - (ordL l)[k].to) := IntWalk.i64_in _ (by rw [ab_max]; omega)
            go_wp2_with (fail)
            refine (implAbs _ _ (by omega) (by omega)).mono ?_; rintro e w' ⟨rfl, rfl⟩
            go_wp2_with (fail)
            go_roundw
            case rel => exact ⟨k + 1, by omega, by omega, fun h => by omega, by go_num, vi (by rw [HN.out]; omega), C2, V2⟩
            case measure => simp [intOf]; omega
          · have r1 : (k : Int) % 2 = 0 := by omega
            have r2 : ((k : Int) % 2 == 0) = true := by rw [r1]; rfl
            have r3 : ¬ (k : Int) % 2 = 1 := by omega
            have r4 : ((k : Int) % 2 == 1) = false := by rw [r1]; rfl
            rw [if_neg hp] at HN
            have z1 : IntKind.i64.wrap ((ordL l)[k].y - (ordL l)[m].y) = (ordL l)[k].y - (ordL l)[m].y := IntWalk.i64_in _ (by omega)
            have z2 : IntKind.i64.wrap (tnK (ordL l) k + ((ordL l)[k].y - (ordL l)[m].y)) = tnK (ordL l) k + ((ordL l)[k].y - (ordL l)[m].y) := IntWalk.i64_in _ (by omega)
            have z4 : IntKind.i64.wrap (tnK (ordL l) k + ((ordL l)[k].y - (ordL l)[m].y) + ab ((ordL l)[m].frm - (ordL l)[k].frm)) = tnK (ordL l) k + ((ordL l)[k].y - (ordL l)[m].y) + ab ((ordL l)[m].frm - (ordL l)[k].frm) := IntWalk.i64_in _ (by rw [ab_max]; omega)
            go_wp2_with (fail)
            refine (implAbs _ _ (by omega) (by omega)).mono ?_; rintro e w' ⟨rfl, rfl⟩
            go_wp2_with (fail)
            go_roundw
            case rel => exact ⟨k + 1, by omega, by omega, fun h => by omega, by go_num, vi (by rw [HN.out]; omega), C2, V2⟩
            case measure => simp [intOf]; omega
      · have hk2 : (ordL l).length ≤ k := by omega
        have HE := Lib.hid (show tnK (ordL l) k = tnK (ordL l) l.length by
          by_cases e : k = (ordL l).length
          · rw [e, OL.out]
          · have h0 := hk0 (by omega)
            have : k = 1 := by omega
            have h0' := OL.out
            rw [this, ← h0', h0]; rfl)
        go_wp2_with (fail)
        go_ret2
        exact ⟨ret_t2 (vi (by rw [E2.out, HE.out])) (vb E1.out.symm), C⟩
end Go.Proofs.Ytdphaejpponmeaa
