/- Lists of casts in memory, and the helpers of the laws at such lists: copies, comparisons, sizes. At most 1048576 casts and layers. -/
import Derived.Test.YtfmlfeokdaahmaaS7a
set_option linter.unusedVariables false
set_option linter.unusedSimpArgs false
namespace Go.Proofs.Ytfmlfeokdaahmaa
open Go.RowKit
set_option maxHeartbeats 2000000
set_option maxRecDepth 100000
/-- A cast as it lies in memory: its data, and where its layers lie. -/
structure Ch where
  (t : Ct) (A : Option Addr) (cp : Nat)
instance : Inhabited Ch := ⟨⟨default, none, 0⟩⟩
def Ch.enc (h : Ch) : List Value := [.int .i64 h.t.id, .int .i64 h.t.time, .int .i64 h.t.x, .int .i64 h.t.y, .slice h.A h.t.lay.length h.cp]
theorem Ch.len (h : Ch) : h.enc.length = 5 := rfl
/-- The layers of each lie where it says. -/
def OkS (w : World) (hs : List Ch) : Prop := ∀ x ∈ hs, Sl 2 Ly.enc w x.A x.t.lay
theorem OkS.below {w w' : World} {hs : List Ch} (h : OkS w hs) (hb : Below w.heap.size w w') : OkS w' hs := fun x hx => (h x hx).below hb
theorem OkS.at {w : World} {hs : List Ch} (h : OkS w hs) {k : Nat} (hk : k < hs.length) : Sl 2 Ly.enc w hs[k].A hs[k].t.lay := h _ (List.getElem_mem hk)
theorem Ch.get {w : World} {b off : Nat} {l : List Ch} (h : Sl 5 Ch.enc w (some ⟨b, off, none⟩) l) {k : Nat} (hk : k < l.length) :
    b < w.heap.size ∧ w.cell? ⟨b, off + k * 5, none⟩ = some (.int .i64 l[k].t.id) ∧ w.cell? ⟨b, off + k * 5 + 1, none⟩ = some (.int .i64 l[k].t.time) ∧ w.cell? ⟨b, off + k * 5 + 2, none⟩ = some (.int .i64 l[k].t.x) ∧ w.cell? ⟨b, off + k * 5 + 3, none⟩ = some (.int .i64 l[k].t.y) ∧ w.cell? ⟨b, off + k * 5 + 4, none⟩ = some (.slice l[k].A l[k].t.lay.length l[k].cp) := by
  obtain ⟨hlt, hc⟩ := Sl.get h hk
  exact ⟨hlt, hc 0 _ rfl, hc 1 _ rfl, hc 2 _ rfl, hc 3 _ rfl, hc 4 _ rfl⟩
def dat (hs : List Ch) : List Ct := hs.map Ch.t
theorem dat_len (hs : List Ch) : (dat hs).length = hs.length := by simp [dat]
theorem dat_get {hs : List Ch} {k : Nat} (h : k < hs.length) : (dat hs)[k]'(by rw [dat_len]; exact h) = hs[k].t := by simp [dat]
/-- What the size of such a list says. -/
def szPost (hs : List Ch) (w : World) (e : Ending) (w' : World) : Prop := ∃ r : Int, e = .returned (.int .i64 r) ∧ Below w.heap.size w w' ∧ (0 ≤ r → r ≤ 1048576 ∧ hs.length ≤ 1048576 ∧ ∀ k (hk : k < hs.length), hs[k].t.lay.length ≤ 1048576)
theorem szCtS (A : Option Addr) (c : Nat) (hs : List Ch) (w : World) (h : Sl 5 Ch.enc w A hs) (hm : hs.length ≤ 9223372036854775807) (hl : ∀ k (hk : k < hs.length), hs[k].t.lay.length ≤ 9223372036854775807) :
    Calls Try.prog 30 #[.slice A hs.length c, .int .i64 1048576] w (szPost hs w) := by
  have HL := Lib.hid hl
  clear hl
  by_cases hn : hs.length ≤ 1048576
  · have h1 : ¬ (1048576 - (hs.length : Int) < 0) := by omega
    go_enter Try.func30, Try.ntmps30
    go_wp2
    go_loopw [1, 5] (fun q i wr => ∃ k : Nat, ∃ r : Int, k ≤ hs.length ∧ i = .int .i64 k ∧ q = .int .i64 r ∧ 0 ≤ r ∧ r ≤ 1048576 ∧ Below w.heap.size w wr ∧ Hid (∀ m (hm : m < hs.length), m < k → hs[m].t.lay.length ≤ 1048576)) (fun _ i _ => hs.length - (intOf i).toNat)
    case atStart => exact ⟨0, _, Nat.zero_le _, rfl, rfl, by omega, by omega, Below.refl _ _, (fun m _ hm => absurd hm (by omega) : ∀ m (hm : m < hs.length), m < 0 → hs[m].t.lay.length ≤ 1048576)⟩
    case round =>
      obtain ⟨k, r, hk, rfl, rfl, hr0, hr1, hb, H⟩ := hrel
      by_cases hlt : k < hs.length
      · obtain ⟨b, off, rfl⟩ := h.addr (by omega)
        obtain ⟨hbl, c0, c1, c2, c3, c4⟩ := Ch.get (h.below hb) hlt
        by_cases hz : (hs[k].t.lay.length : Int) ≤ r
        · have hz' : ¬ (r - (hs[k].t.lay.length : Int) < 0) := by omega
          go_wp2_with (go_at_call 15; refine (szCtYes hs[k].t hs[k].A hs[k].cp r _ hr1 hz).mono ?_; rintro e w2 ⟨rfl, b2⟩)
          go_roundw
          case rel => exact ⟨k + 1, _, by omega, by go_num, rfl, by omega, by omega, bth hb b2, (fun m hm hm2 => by
            by_cases e : m = k
            · subst e; omega
            · exact H.out m hm (by omega) : ∀ m (hm : m < hs.length), m < k + 1 → hs[m].t.lay.length ≤ 1048576)⟩
          case measure => simp [intOf]; omega
        · have HK := HL.out k hlt
          go_wp2_with (go_at_call 15; refine (szCtNo hs[k].t hs[k].A hs[k].cp r _ hr0 HK (by omega)).mono ?_; rintro e w2 ⟨rfl, b2⟩)
          go_ret
          exact ⟨_, rfl, bth hb b2, fun hc => absurd hc (by omega)⟩
      · obtain rfl : k = hs.length := by omega
        go_wp2
        go_ret
        exact ⟨_, rfl, hb, fun _ => ⟨hr1, hn, fun m hm => H.out m hm hm⟩⟩
  · have h1 : 1048576 - (hs.length : Int) < 0 := by omega
    go_enter Try.func30, Try.ntmps30
    go_wp2
    go_ret
    exact ⟨_, rfl, Below.refl _ _, fun hc => absurd hc (by omega)⟩
theorem eqCtS (A B : Option Addr) (c d : Nat) (hs ks : List Ch) (w : World) (h : Sl 5 Ch.enc w A hs) (h2 : Sl 5 Ch.enc w B ks) (o1 : OkS w hs) (o2 : OkS w ks) (hd : dat hs = dat ks) (hn : hs.length ≤ 1048576) (hl : ∀ k (hk : k < hs.length), hs[k].t.lay.length ≤ 1048576) :
    Calls Try.prog 34 #[.slice A hs.length c, .slice B ks.length d] w fun e w' => e = .returned (.bool true) ∧ Below w.heap.size w w' := by
  have hlen : ks.length = hs.length := by rw [← dat_len ks, ← dat_len hs, hd]
  have HG := Lib.hid (show ∀ k (h1 : k < hs.length) (h2 : k < ks.length), ks[k].t = hs[k].t from fun k h1 h2 => by
    rw [← dat_get h1, ← dat_get h2]; simp only [hd])
  have HL := Lib.hid hl
  have HN := Lib.hid hlen
  rw [hlen]
  clear hl hlen hd
  go_enter Try.func34, Try.ntmps34
  go_wp2
  go_loopw [5] (fun i wr => ∃ k : Nat, k ≤ hs.length ∧ i = .int .i64 k ∧ Below w.heap.size w wr) (fun i _ => hs.length - (intOf i).toNat)
  case atStart => exact ⟨0, Nat.zero_le _, rfl, Below.refl _ _⟩
  case round =>
    obtain ⟨k, hk, rfl, hb⟩ := hrel
    by_cases hlt : k < hs.length
    · have hlt2 : k < ks.length := by rw [HN.out]; exact hlt
      have e := HG.out k hlt hlt2
      obtain ⟨b, off, rfl⟩ := h.addr (by omega)
      obtain ⟨b', off', rfl⟩ := h2.addr (by omega)
      obtain ⟨hbl, c0, c1, c2, c3, c4⟩ := Ch.get (h.below hb) hlt
      obtain ⟨hbl', d0, d1, d2, d3, d4⟩ := Ch.get (h2.below hb) hlt2
      have s1 := (o1.at hlt).below hb
      have s2 := (o2.at hlt2).below hb
      rw [e] at d0 d1 d2 d3 d4 s2
      have l1 := aft_cell hbl
      have l2 := aft_cell hbl'
      have u1 : (0 : Int) ≤ (k : Int) := by omega
      have u2 : (k : Int) < (hs.length : Int) := by omega
      have EC := Lib.hid (show ∀ (x : Aft wr), Calls Try.prog 19 #[.agg #[.int .i64 hs[k].t.id, .int .i64 hs[k].t.time, .int .i64 hs[k].t.x, .int .i64 hs[k].t.y, .slice hs[k].A hs[k].t.lay.length hs[k].cp], .agg #[.int .i64 hs[k].t.id, .int .i64 hs[k].t.time, .int .i64 hs[k].t.x, .int .i64 hs[k].t.y, .slice ks[k].A hs[k].t.lay.length ks[k].cp]] x.val fun e w' => e = .returned (.bool true) ∧ Below x.val.heap.size x.val w' from
        fun x => eqCt hs[k].t hs[k].A ks[k].A hs[k].cp ks[k].cp x.val (s1.aft x) (s2.aft x) (HL.out k hlt))
      clear e s1 s2
      go_wp2_with (fail)
      refine wp_region_aft (by kernel_rfl) (by kernel_rfl) ?_
      repeat (go_big_quiet_step ((go_at_call 19; exact Aft.calls _ (EC.out _))))
      refine wpQuiet_nil ?_
      intro w9 b9
      go_wp2
      go_roundw
      case rel => exact ⟨k + 1, by omega, by go_num, bth hb b9⟩
      case measure => simp [intOf]; omega
    · go_wp2
      go_ret
      exact ⟨rfl, hb⟩
/-- One row more. -/
theorem Sl.snoc {α : Type} {K : Nat} {enc : α → List Value} {w : World} {g N : Nat} {l : List α} {x : α} (h : Sl K enc w (some ⟨g, 0, none⟩) l) (hA : Ar w g (N * K)) (hl : l.length < N) (hK : ∀ x, (enc x).length = K) :
    Sl K enc (w.setCells g (l.length * K) (enc x)) (some ⟨g, 0, none⟩) (l ++ [x]) := by
  have hlt : l.length < (l ++ [x]).length := by simp
  have h1 : Sl K enc w (some ⟨g, 0, none⟩) ((l ++ [x]).take l.length) := by rw [List.take_left]; exact h
  have h2 : Ar w g ((l ++ [x]).length * K) := ⟨hA.1, fun i hi => hA.2.1 i (Nat.lt_of_lt_of_le hi (Nat.mul_le_mul_right K (by simp; omega))), hA.2.2⟩
  have := h1.put h2 hlt hK
  have e : (l ++ [x])[l.length]'hlt = x := by simp
  rw [e, List.take_of_length_le (by simp)] at this
  exact this
/-- The layers of each lie in blocks behind g. -/
def OutG (g : Nat) (hs : List Ch) : Prop := ∀ x ∈ hs, ∀ a, x.A = some a → g < a.block
theorem OkS.set {w : World} {hs : List Ch} {g : Nat} (h : OkS w hs) (hg : OutG g hs) (vs : List Value) (o : Nat) : OkS (w.setCells g o vs) hs := fun x hx => (h x hx).far (fun a ha => by have := hg x hx a ha; omega) vs o
/-- Copies of casts: what the slice is, and that the data are the same. -/
def toPost (hs : List Ch) (w : World) (e : Ending) (w' : World) : Prop := ∃ (g : Nat) (ks : List Ch), e = .returned (.slice (some ⟨g, 0, none⟩) ks.length ks.length) ∧ dat ks = dat hs ∧ ks.length ≤ 1048576 ∧ Below w.heap.size w w' ∧ Sl 5 Ch.enc w' (some ⟨g, 0, none⟩) ks ∧ OkS w' ks ∧ ∀ k (hk : k < ks.length), ks[k].t.lay.length ≤ 1048576
theorem infoCt : (Try.prog.info? 32).map (fun i => (i.zero, i.size, i.bytes)) = some (some (.agg #[.int .i64 0, .int .i64 0, .int .i64 0, .int .i64 0, .slice none 0 0]), 5, 56) := by kernel_rfl
theorem toCtS (A : Option Addr) (c : Nat) (hs : List Ch) (w : World) (h : Sl 5 Ch.enc w A hs) (ok : OkS w hs) (hn : hs.length ≤ 1048576) (hl : ∀ k (hk : k < hs.length), hs[k].t.lay.length ≤ 1048576) :
    Calls Try.prog 32 #[.slice A hs.length c] w (toPost hs w) := by
  have HL := Lib.hid hl
  clear hl
  have hmk := fun W => run_make_rows (P := Try.prog) 48 32 _ 5 56 Try.underlying48 infoCt hs.length (by omega) (by omega) W
  go_enter Try.func32, Try.ntmps32
  go_wp2
  generalize hW : World.alloc w _ = W1
  obtain ⟨hbW, hA, _⟩ := made_facts hW
  clear hW
  go_loopw [4] (fun i wr => ∃ (k : Nat) (ks : List Ch), k ≤ hs.length ∧ i = .int .i64 k ∧ Below w.heap.size w wr ∧ Hid (ks.length = k) ∧ Hid (dat ks = (dat hs).take k) ∧ Sl 5 Ch.enc wr (some ⟨w.heap.size, 0, none⟩) ks ∧ Hid (OkS wr ks) ∧ Hid (OutG w.heap.size ks) ∧ Ar wr w.heap.size (hs.length * 5)) (fun i _ => hs.length - (intOf i).toNat)
  case atStart => exact ⟨0, [], Nat.zero_le _, rfl, hbW, (rfl : ([] : List Ch).length = 0), (by simp [dat] : dat [] = (dat hs).take 0), Sl.nil, (fun x hx => absurd hx (by simp) : OkS W1 []), (fun x hx => absurd hx (by simp) : OutG w.heap.size []), hA⟩
  case round =>
    obtain ⟨k, ks, hk, rfl, hb, HK, HD, hs', HO, HG, hA⟩ := hrel
    by_cases hlt : k < hs.length
    · obtain ⟨b, off, rfl⟩ := h.addr (by omega)
      obtain ⟨hbl, c0, c1, c2, c3, c4⟩ := Ch.get (h.below hb) hlt
      have s1 := (ok.at hlt).below hb
      go_wp2_with (fail)
      refine (toCt hs[k].t hs[k].A hs[k].cp _ s1 (HL.out k hlt)).mono ?_
      rintro e w' ⟨g1, rfl, m1⟩
      have hb' := m1.2.1
      have hA' := hA.below hb'
      have hs'' := hs'.below hb'
      have HO' := Lib.hid (HO.out.below hb')
      have hg1 : w.heap.size < g1 := Nat.lt_of_lt_of_le hA.1 m1.1
      have NEW := Lib.hid (hs''.snoc (x := (Ch.mk hs[k].t (some ⟨g1, 0, none⟩) hs[k].t.lay.length)) hA' (by rw [HK.out]; exact hlt) Ch.len)
      obtain ⟨v0, g0⟩ := hA'.2.1 (k * 5) (by omega)
      obtain ⟨v1, g1'⟩ := hA'.2.1 (k * 5 + 1) (by omega)
      obtain ⟨v2, g2⟩ := hA'.2.1 (k * 5 + 2) (by omega)
      obtain ⟨v3, g3⟩ := hA'.2.1 (k * 5 + 3) (by omega)
      obtain ⟨v4, g4⟩ := hA'.2.1 (k * 5 + 4) (by omega)
      have f0 := hA'.2.2 (k * 5)
      have f1 := hA'.2.2 (k * 5 + 1)
      have f2 := hA'.2.2 (k * 5 + 2)
      have f3 := hA'.2.2 (k * 5 + 3)
      have f4 := hA'.2.2 (k * 5 + 4)
      have M1 := Lib.hid m1
      clear m1 s1
      go_wp2_with (fail)
      go_roundw
      case rel =>
        rw [HK.out] at NEW
        have G2 : OutG w.heap.size (ks ++ [(Ch.mk hs[k].t (some ⟨g1, 0, none⟩) hs[k].t.lay.length)]) := fun x hx a ha => by
          rcases List.mem_append.1 hx with hx | hx
          · exact HG.out x hx a ha
          · simp at hx; subst hx; injection ha with ha; subst ha; exact hg1
        have O2 : OkS w' (ks ++ [(Ch.mk hs[k].t (some ⟨g1, 0, none⟩) hs[k].t.lay.length)]) := fun x hx => by
          rcases List.mem_append.1 hx with hx | hx
          · exact HO'.out x hx
          · simp at hx; subst hx; exact M1.out.2.2.1
        have L1 : (ks ++ [(Ch.mk hs[k].t (some ⟨g1, 0, none⟩) hs[k].t.lay.length)]).length = k + 1 := by rw [List.length_append, HK.out]; rfl
        have D1 : dat (ks ++ [(Ch.mk hs[k].t (some ⟨g1, 0, none⟩) hs[k].t.lay.length)]) = (dat hs).take (k + 1) := by
          rw [List.take_succ_eq_append_getElem (by rw [dat_len]; exact hlt), dat_get hlt, ← HD.out]; simp [dat]
        have O3 := O2.set G2 (Ch.enc (Ch.mk hs[k].t (some ⟨g1, 0, none⟩) hs[k].t.lay.length)) (k * 5)
        exact ⟨k + 1, ks ++ [(Ch.mk hs[k].t (some ⟨g1, 0, none⟩) hs[k].t.lay.length)], by omega, by go_num, bset (bth hb hb') (Nat.le_refl _) (Ch.enc (Ch.mk hs[k].t (some ⟨g1, 0, none⟩) hs[k].t.lay.length)) (k * 5), Lib.hid L1, Lib.hid D1, NEW.out, Lib.hid O3, Lib.hid G2, hA'.put (Ch.enc (Ch.mk hs[k].t (some ⟨g1, 0, none⟩) hs[k].t.lay.length)) (k * 5) (by show k * 5 + 5 ≤ _; omega)⟩
      case measure => simp [intOf]; omega
    · obtain rfl : k = hs.length := by omega
      have D : dat ks = dat hs := by rw [HD.out, List.take_of_length_le (by rw [dat_len]; omega)]
      have D := Lib.hid D
      go_wp2
      go_ret
      refine ⟨_, ks, by rw [HK.out]; rfl, D.out, by rw [HK.out]; exact hn, hb, hs', HO.out, fun k hk => ?_⟩
      have hk2 : k < hs.length := by rw [← HK.out]; exact hk
      have e : ks[k].t = hs[k].t := by rw [← dat_get hk2, ← dat_get hk]; simp only [D.out]
      rw [e]; exact HL.out k hk2
end Go.Proofs.Ytfmlfeokdaahmaa
