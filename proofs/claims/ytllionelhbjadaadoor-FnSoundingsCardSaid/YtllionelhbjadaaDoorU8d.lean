/- The program's ParseSounding: what it returns, where the library's table, its greatest length and its errors read as its initialisers lay them. Texts of at most 1048576 bytes. -/
import Derived.Test.YtllionelhbjadaaDoorU8c
import Derived.Deep.RegionHeld3
set_option linter.unusedVariables false
set_option linter.unusedSimpArgs false
namespace Go.Proofs.YtllionelhbjadaaDoor
open Go.RowKit
set_option maxHeartbeats 16000000
set_option maxRecDepth 100000
theorem infoN : (Tryd.prog.info? 3).map (fun i => (i.zero, i.size, i.bytes)) = some (some (.int .i64 0), 1, 8) := by kernel_rfl
theorem wp_appO {P : Program} {α : Type} {K base e bytes : Nat} {enc : α → List Value} (hK : ∀ x, (enc x).length = K) (h1 : ∀ x, ∀ u ∈ enc x, u.oneCell' = true) (hK0 : 0 < K) (hb16 : bytes ≤ 128)
    {ops : Array Oper} {rest : List Oper} {o : Oper} {a : Act} {Q : Exit → Act → World → Prop} (w : World) (hgd : o.guard = none) (s x : Operand) (t : TypeId)
    (ho : o.op = .call { callee := .builtin .append, args := #[s, x], argTypes := #[t, t] }) {z : Value}
    (ht : P.underlying t = some (.slice e)) (hinfo : (P.info? e).map (fun i => (i.zero, i.size, i.bytes)) = some (some z, K, bytes)) (hzs : z.cells.size = K)
    (v : Value) (l : List α) (hs : a.eval s = v) (hown : OutS K enc base e w v l) (y : α) (g : Nat) (hx : a.eval x = .slice (some ⟨g, 0, none⟩) 1 1) (hy : ∀ j u, (enc y)[j]? = some u → w.cell? ⟨g, j, none⟩ = some u)
    (hn : l.length ≤ 1048576) (hbase : base ≤ w.heap.size)
    (h : ∀ v' w', OutS K enc base e w' v' (l ++ [y]) → w.grownBy w' v.ownBlock → Below base w w' → (v'.ownBlock = v.ownBlock ∨ v'.ownBlock = some w.heap.size) → wpList P ops Q rest (a.put o.dst v') w') : wpList P ops Q (o :: rest) a w := by
  obtain ⟨i, hi, hz, hsz, hby⟩ := info_parts hinfo
  refine wpList_append_own_at w hgd s x t ho base e i z K bytes ht hi hz hsz hby hzs hK0 v l.length (l.flatMap enc) hs hown ⟨g, 0, none⟩ 1 1 (enc y) hx (by rw [hK]; omega) (fun j u hu => ?_) (h1 y) (by simp only [maxLen]; omega) ?_ hbase ?_
  · rw [Addr.add_lit, Nat.zero_add]; exact hy j u hu
  · have : (l.length + 1) * bytes ≤ 1048577 * 128 := Nat.mul_le_mul (by omega) hb16
    omega
  · intro v' w' hown' hgrow _ hob
    refine h v' w' ?_ hgrow ((Below.refl base w).grown hgrow hbase fun k hk => (hown.lt k hk).1) hob
    unfold OutS
    rw [List.length_append, List.flatMap_append]
    simpa using hown'
def sps : List Value := [.string ⟨#[64]⟩, .string ⟨#[44]⟩, .string ⟨#[58]⟩, .string ⟨#[43, 45]⟩, .string ⟨#[]⟩]
theorem sps_get {k : Nat} (hk : k < 5) : sps[k]? = some (.string (sp k)) := by
  have h : k = 0 ∨ k = 1 ∨ k = 2 ∨ k = 3 ∨ k = 4 := by omega
  rcases h with rfl | rfl | rfl | rfl | rfl <;> rfl
theorem sp_ne {k : Nat} (hk : k < 4) : sp k ≠ ⟨#[]⟩ := by
  have h : k = 0 ∨ k = 1 ∨ k = 2 ∨ k = 3 := by omega
  rcases h with rfl | rfl | rfl | rfl <;> (intro e; have := congrArg ByteArray.size e; simp [sp, ByteArray.size] at this)
theorem sp_full {k : Nat} (hk : k < 4) : (sp k).toList.isEmpty = false := by
  rw [ByteArray.toList_eq]
  have h : k = 0 ∨ k = 1 ∨ k = 2 ∨ k = 3 := by omega
  rcases h with rfl | rfl | rfl | rfl <;> rfl
theorem iParse (s : ByteArray) (w : World) (hs : s.size ≤ 1048576) (R : RdOk w) :
    Calls Tryd.prog 10 #[.string s] w fun e w' => e = .returned (.tuple #[.agg #[.int .i64 (psY s).id, .int .i64 (psY s).x, .int .i64 (psY s).y, .int .i64 (psY s).depth, .int .i64 (psY s).doubt], .bool (psB s)]) ∧ Below w.heap.size w w' := by
  go_enter Tryd.func10, Tryd.ntmps10
  go_upto_region 1 with (fail)
  generalize hW : World.alloc w _ = W1
  have I : Bk W1 w.heap.size (Sd.enc z8) := by rw [← hW]; exact Bk.new w (Sd.enc z8) _
  have b1 : Below w.heap.size w W1 := by rw [← hW]; exact below_alloc _ _
  have hrb : w.heap.size < W1.heap.size := I.1
  clear hW
  go_upto_region 2 with (fail)
  generalize hW : World.alloc W1 _ = W2
  have O : OutS 1 encI W1.heap.size 3 W2 (.slice (some ⟨W1.heap.size, 0, none⟩) 0 0) ([] : List Int) := by rw [← hW]; exact OutS.empty (Nat.le_refl _)
  have b2 : Below W1.heap.size W1 W2 := by rw [← hW]; exact below_alloc _ _
  have z2 : W1.heap.size < W2.heap.size := by rw [← hW]; simp
  have I := I.below b2
  have B := bth b1 b2
  clear hW b1 b2
  go_wp2_with (fail)
  generalize hW : World.alloc W2 _ = W3
  have S : Bk W3 W2.heap.size sps := by rw [← hW]; exact Bk.new W2 sps _
  have b3 : Below W2.heap.size W2 W3 := by rw [← hW]; exact below_alloc _ _
  have I := I.below b3
  have O := O.below b3
  have B := bth B b3
  have hSne : (Value.slice (some ⟨W1.heap.size, 0, none⟩) 0 0).ownBlock ≠ some W2.heap.size := by
    intro e
    have : W1.heap.size = W2.heap.size := Option.some.inj e
    omega
  have hgs : w.heap.size ≠ W2.heap.size := by omega
  clear hW b3
  generalize W2.heap.size = gS at *
  generalize W1.heap.size = gB at *
  go_loopw [0, 4, 16] (fun c l i wr => ∃ (k : Nat) (cs : ByteArray) (L : List Int), k ≤ 5 ∧ c = .string cs ∧ i = .int .i64 k ∧ Hid (PI s k cs L) ∧ (k = 5 → cs.data.toList = []) ∧ cs.size ≤ 1048576 ∧ Hid (OutS 1 encI gB 3 wr l L) ∧ Hid (l.ownBlock ≠ some gS) ∧ Hid (Bk wr w.heap.size (Sd.enc z8)) ∧ Hid (Bk wr gS sps) ∧ Below w.heap.size w wr) (fun _ _ i _ => 5 - (intOf i).toNat)
  case atStart => exact ⟨0, s, [], by omega, rfl, rfl, PI.zero s, fun h => by omega, hs, O, hSne, I, S, B⟩
  case round =>
    clear O hSne I S B
    obtain ⟨k, cs, L, hk, rfl, rfl, HPI, h5, hcs, HO, HN, HI, HS, B⟩ := hrel
    by_cases hk4 : k < 4
    · have c0 := HS.out.2.1 k _ (sps_get (by omega))
      have HC := Lib.hid (And.intro hk4 h5)
      obtain ⟨q1, q2⟩ := ba_ne (sp_ne hk4)
      have q3 := sp_full hk4
      have u1 : (0 : Int) ≤ (k : Int) := by omega
      have u2 : (k : Int) < 5 := by omega
      have u3 : k < 5 := by omega
      clear h5 hk hk4
      go_wp2_with (fail)
      refine (cutC cs (sp k) (by omega) (by omega) _ (R.below B)).mono ?_; rintro e w2 ⟨u, v, f, rfl, hcut, b2⟩
      have HX := Lib.hid hcut
      have hcz := cut_size hcut
      rw [sl, sl, sl] at hcz
      have B := bth B b2
      have O3 := HO.out.below b2
      have I := HI.out.below b2
      have S := HS.out.below b2
      clear hcut c0 HO HI HS b2 q1 q2 q3
      cases f with
      | false =>
        have HP := Lib.hid (ps_of (.inr ⟨rfl, rfl, PI.no_cut HPI.out HC.out.1 HX.out⟩ : PR s z8 false))
        have i0 := I.2.1 0 _ rfl
        have i1 := I.2.1 1 _ rfl
        have i2 := I.2.1 2 _ rfl
        have i3 := I.2.1 3 _ rfl
        have i4 := I.2.1 4 _ rfl
        have f0 := I.2.2 0
        have f1 := I.2.2 1
        have f2 := I.2.2 2
        have f3 := I.2.2 3
        have f4 := I.2.2 4
        have hzr := I.1
        clear HPI
        go_wp2_with (fail)
        have I9 := I.putA (Sd.enc (z8)) rfl
        have b9 := bset B (Nat.le_refl _) (Sd.enc (z8)) 0
        simp only [Sd.enc, z8, World.setCells, Nat.zero_add, Nat.reduceAdd] at I9 b9
        have e0 := I9.2.1 0 _ rfl
        have e1 := I9.2.1 1 _ rfl
        have e2 := I9.2.1 2 _ rfl
        have e3 := I9.2.1 3 _ rfl
        have e4 := I9.2.1 4 _ rfl
        exact bodyPost_ret (v := .tuple #[.agg #[.int .i64 (z8).id, .int .i64 (z8).x, .int .i64 (z8).y, .int .i64 (z8).depth, .int .i64 (z8).doubt], .bool false]) (by simp [results, Tryd.results10, go_sem, e0, e1, e2, e3, e4, z8]) rfl ⟨by rw [HP.out.1, HP.out.2], b9⟩
      | true =>
        go_wp2_with (fail)
        refine (iPInt u _ (by omega) (R.below B)).mono ?_; rintro e w3 ⟨n, ok, rfl, h1, h2, b3⟩
        have H2 := Lib.hid h2
        have H1 := Lib.hid h1
        have B := bth B b3
        have O3 := O3.below b3
        have I := I.below b3
        have S := S.below b3
        clear h1 h2 b3
        cases ok with
        | false =>
          have HP := Lib.hid (ps_of (.inr ⟨rfl, rfl, PI.no_num HPI.out HC.out.1 HX.out (fun z h0 h1 e => by have h3 := (H2.out z h0 h1 e).1; cases h3)⟩ : PR s z8 false))
          have i0 := I.2.1 0 _ rfl
          have i1 := I.2.1 1 _ rfl
          have i2 := I.2.1 2 _ rfl
          have i3 := I.2.1 3 _ rfl
          have i4 := I.2.1 4 _ rfl
          have f0 := I.2.2 0
          have f1 := I.2.2 1
          have f2 := I.2.2 2
          have f3 := I.2.2 3
          have f4 := I.2.2 4
          have hzr := I.1
          clear HPI
          go_wp2_with (fail)
          have I9 := I.putA (Sd.enc (z8)) rfl
          have b9 := bset B (Nat.le_refl _) (Sd.enc (z8)) 0
          simp only [Sd.enc, z8, World.setCells, Nat.zero_add, Nat.reduceAdd] at I9 b9
          have e0 := I9.2.1 0 _ rfl
          have e1 := I9.2.1 1 _ rfl
          have e2 := I9.2.1 2 _ rfl
          have e3 := I9.2.1 3 _ rfl
          have e4 := I9.2.1 4 _ rfl
          exact bodyPost_ret (v := .tuple #[.agg #[.int .i64 (z8).id, .int .i64 (z8).x, .int .i64 (z8).y, .int .i64 (z8).depth, .int .i64 (z8).doubt], .bool false]) (by simp [results, Tryd.results10, go_sem, e0, e1, e2, e3, e4, z8]) rfl ⟨by rw [HP.out.1, HP.out.2], b9⟩
        | true =>
          have PN := Lib.hid (PI.step HPI.out HC.out.1 HX.out (H1.out rfl).1 (H1.out rfl).2.1 (H1.out rfl).2.2)
          have hLn : L.length ≤ 5 := by rw [HPI.out.1]; omega
          have hz3 : gB ≤ w3.heap.size := by have := S.1; omega
          have hz4 := B.size
          clear HPI H1 H2 HX
          go_wp2_with (at_builtin; refine wp_appO (K := 1) (bytes := 8) (enc := encI) encI_len encI_one (by decide) (by decide) _ rfl (.tmp 41) (.tmp 43) _ rfl Tryd.underlying57 infoN rfl _ L rfl (O3.below (by go_grown)) n _ rfl (by intro j u hu; exact app_cell (by simp) hu) (by omega) (by simp; omega) ?_; intro v4 W4 hO4 hg4 hb4 hob4)
          have b4 : Below gB w3 W4 := (Below.mono (by go_grown : Below w3.heap.size w3 _) hz3).trans hb4
          have g3 : Below w3.heap.size w3 (w3.alloc (.cells #[.int .i64 n] 3)) := below_alloc _ _
          have I4 : Bk W4 w.heap.size (Sd.enc z8) := (I.below g3).grown hg4 (fun e => by have := (O3.lt _ e).1; omega)
          have S4 : Bk W4 gS sps := (S.below g3).grown hg4 HN.out
          have N4 : v4.ownBlock ≠ some gS := fun e => by
            rcases hob4 with h | h
            · exact HN.out (h.symm.trans e)
            · have e2 := Option.some.inj (h.symm.trans e)
              have := S.1
              simp at e2
              omega
          refine ⟨⟨k + 1, v, L ++ [n], by omega, rfl, by go_num, PN, fun h => ?_, by omega, Lib.hid hO4, Lib.hid N4, Lib.hid I4, Lib.hid S4, B.trans (b4.mono (by omega))⟩, by simp [intOf]; omega⟩
          have := HC.out.1
          omega
    · by_cases hk5 : k = 4
      · subst hk5
        have c0 := HS.out.2.1 4 _ (sps_get (by omega))
        have c1 : wr.cell? ⟨gS, 4, none⟩ = some (.string ⟨#[]⟩) := c0
        clear c0 hk hk4 h5
        go_wp2_with (fail)
        refine (iPInt cs _ (by omega) (R.below B)).mono ?_; rintro e w3 ⟨n, ok, rfl, h1, h2, b3⟩
        have H2 := Lib.hid h2
        have H1 := Lib.hid h1
        have B := bth B b3
        have O3 := HO.out.below b3
        have I := HI.out.below b3
        have S := HS.out.below b3
        clear h1 h2 b3 HO HI HS c1
        cases ok with
        | false =>
          have HP := Lib.hid (ps_of (.inr ⟨rfl, rfl, PI.no_last HPI.out (fun z h0 h1 e => by have h3 := (H2.out z h0 h1 e).1; cases h3)⟩ : PR s z8 false))
          have i0 := I.2.1 0 _ rfl
          have i1 := I.2.1 1 _ rfl
          have i2 := I.2.1 2 _ rfl
          have i3 := I.2.1 3 _ rfl
          have i4 := I.2.1 4 _ rfl
          have f0 := I.2.2 0
          have f1 := I.2.2 1
          have f2 := I.2.2 2
          have f3 := I.2.2 3
          have f4 := I.2.2 4
          have hzr := I.1
          clear HPI
          go_wp2_with (fail)
          have I9 := I.putA (Sd.enc (z8)) rfl
          have b9 := bset B (Nat.le_refl _) (Sd.enc (z8)) 0
          simp only [Sd.enc, z8, World.setCells, Nat.zero_add, Nat.reduceAdd] at I9 b9
          have e0 := I9.2.1 0 _ rfl
          have e1 := I9.2.1 1 _ rfl
          have e2 := I9.2.1 2 _ rfl
          have e3 := I9.2.1 3 _ rfl
          have e4 := I9.2.1 4 _ rfl
          exact bodyPost_ret (v := .tuple #[.agg #[.int .i64 (z8).id, .int .i64 (z8).x, .int .i64 (z8).y, .int .i64 (z8).depth, .int .i64 (z8).doubt], .bool false]) (by simp [results, Tryd.results10, go_sem, e0, e1, e2, e3, e4, z8]) rfl ⟨by rw [HP.out.1, HP.out.2], b9⟩
        | true =>
          have PN := Lib.hid (PI.last HPI.out (H1.out rfl).1 (H1.out rfl).2.1 (H1.out rfl).2.2)
          have hLn : L.length ≤ 5 := by rw [HPI.out.1]; omega
          have hz3 : gB ≤ w3.heap.size := by have := S.1; omega
          have hz4 := B.size
          clear HPI H1 H2
          go_wp2_with (at_builtin; refine wp_appO (K := 1) (bytes := 8) (enc := encI) encI_len encI_one (by decide) (by decide) _ rfl (.tmp 41) (.tmp 43) _ rfl Tryd.underlying57 infoN rfl _ L rfl (O3.below (by go_grown)) n _ rfl (by intro j u hu; exact app_cell (by simp) hu) (by omega) (by simp; omega) ?_; intro v4 W4 hO4 hg4 hb4 hob4)
          have b4 : Below gB w3 W4 := (Below.mono (by go_grown : Below w3.heap.size w3 _) hz3).trans hb4
          have g3 : Below w3.heap.size w3 (w3.alloc (.cells #[.int .i64 n] 3)) := below_alloc _ _
          have I4 : Bk W4 w.heap.size (Sd.enc z8) := (I.below g3).grown hg4 (fun e => by have := (O3.lt _ e).1; omega)
          have S4 : Bk W4 gS sps := (S.below g3).grown hg4 HN.out
          have N4 : v4.ownBlock ≠ some gS := fun e => by
            rcases hob4 with h | h
            · exact HN.out (h.symm.trans e)
            · have e2 := Option.some.inj (h.symm.trans e)
              have := S.1
              simp at e2
              omega
          exact ⟨⟨5, ByteArray.empty, L ++ [n], by omega, rfl, by go_num, PN, fun _ => rfl, by simp, Lib.hid hO4, Lib.hid N4, Lib.hid I4, Lib.hid S4, B.trans (b4.mono (by omega))⟩, by simp [intOf]⟩
      · obtain rfl : k = 5 := by omega
        obtain ⟨y, eL, ey, hu⟩ := PI.done HPI.out (h5 rfl)
        subst eL
        obtain ⟨A, c', hv, hcl, hs5, ho5, -⟩ := HO.out.sl encI_len
        subst hv
        obtain ⟨b, off, rfl⟩ := hs5.addr (by simp [fs])
        have hl5 : (fs y).length = 5 := rfl
        have g0 : wr.cell? ⟨b, off, none⟩ = some (.int .i64 y.id) := (getI hs5 (k := 0) (by omega)).2
        have g1 : wr.cell? ⟨b, off + 1, none⟩ = some (.int .i64 y.x) := (getI hs5 (k := 1) (by omega)).2
        have g2 : wr.cell? ⟨b, off + 2, none⟩ = some (.int .i64 y.y) := (getI hs5 (k := 2) (by omega)).2
        have g3 : wr.cell? ⟨b, off + 3, none⟩ = some (.int .i64 y.depth) := (getI hs5 (k := 3) (by omega)).2
        have g4 : wr.cell? ⟨b, off + 4, none⟩ = some (.int .i64 y.doubt) := (getI hs5 (k := 4) (by omega)).2
        have hbl := (getI hs5 (k := 0) (by omega)).1
        have I := HI.out
        have HU := Lib.hid (And.intro ey hu)
        clear ey hu HO HI HS HN ho5 hk hk4 hk5 h5 HPI hcs hcl hs5
        have KS := Lib.hid (fun (w' : World) (hb : Below wr.heap.size wr w') => And.intro ((hb.cell (p := ⟨b, off, none⟩) hbl).trans g0) (And.intro ((hb.cell (p := ⟨b, off + 1, none⟩) hbl).trans g1) (And.intro ((hb.cell (p := ⟨b, off + 2, none⟩) hbl).trans g2) (And.intro ((hb.cell (p := ⟨b, off + 3, none⟩) hbl).trans g3) ((hb.cell (p := ⟨b, off + 4, none⟩) hbl).trans g4)))))
        rw [hl5]
        clear hl5
        go_upto_region 17 with (fail)
        go_region_held3 (fun w' => w'.cell? ⟨b, off, none⟩ = some (.int .i64 y.id) ∧ w'.cell? ⟨b, off + 1, none⟩ = some (.int .i64 y.x) ∧ w'.cell? ⟨b, off + 2, none⟩ = some (.int .i64 y.y) ∧ w'.cell? ⟨b, off + 3, none⟩ = some (.int .i64 y.depth) ∧ w'.cell? ⟨b, off + 4, none⟩ = some (.int .i64 y.doubt))
          (first | exact KS.out _ (Below.refl _ _) | exact KS.out _ (Below.refl _ _).drew | exact KS.out _ (below_alloc _ _) | exact KS.out _ (below_alloc _ _).drew)
          (fail)
        all_goals
          generalize hW : World.drew (World.alloc wr _) = W5
          have J : Bk W5 wr.heap.size (Sd.enc y) := by rw [← hW]; exact (Bk.new wr (Sd.enc y) _).below (Below.refl _ _).drew
          have b5 : Below wr.heap.size wr W5 := by rw [← hW]; exact (below_alloc _ _).drew
          have I := I.below b5
          have B := bth B b5
          clear hW b5 g0 g1 g2 g3 g4 KS
          have j0 := J.2.1 0 _ rfl
          have j1 := J.2.1 1 _ rfl
          have j2 := J.2.1 2 _ rfl
          have j3 := J.2.1 3 _ rfl
          have j4 := J.2.1 4 _ rfl
          go_wp2_with (fail)
          refine (implOne y _).mono ?_; rintro e w5 ⟨rfl, c5⟩
          have B := bth B c5
          have I := I.below c5
          have J := J.below c5
          clear j0 j1 j2 j3 j4 c5
          cases h : sdOk y with
          | false =>
            have HP := Lib.hid (ps_of (.inr ⟨rfl, rfl, fun x hx e => by rw [← HU.out.2 x hx e, hx] at h; cases h⟩ : PR s z8 false))
            clear h J HU
            have i0 := I.2.1 0 _ rfl
            have i1 := I.2.1 1 _ rfl
            have i2 := I.2.1 2 _ rfl
            have i3 := I.2.1 3 _ rfl
            have i4 := I.2.1 4 _ rfl
            have f0 := I.2.2 0
            have f1 := I.2.2 1
            have f2 := I.2.2 2
            have f3 := I.2.2 3
            have f4 := I.2.2 4
            have hzr := I.1
            go_wp2_with (fail)
            have I9 := I.putA (Sd.enc (z8)) rfl
            have b9 := bset B (Nat.le_refl _) (Sd.enc (z8)) 0
            simp only [Sd.enc, z8, World.setCells, Nat.zero_add, Nat.reduceAdd] at I9 b9
            have e0 := I9.2.1 0 _ rfl
            have e1 := I9.2.1 1 _ rfl
            have e2 := I9.2.1 2 _ rfl
            have e3 := I9.2.1 3 _ rfl
            have e4 := I9.2.1 4 _ rfl
            exact bodyPost_ret (v := .tuple #[.agg #[.int .i64 (z8).id, .int .i64 (z8).x, .int .i64 (z8).y, .int .i64 (z8).depth, .int .i64 (z8).doubt], .bool false]) (by simp [results, Tryd.results10, go_sem, e0, e1, e2, e3, e4, z8]) rfl ⟨by rw [HP.out.1, HP.out.2], b9⟩
          | true =>
            have HP := Lib.hid (ps_of (.inl ⟨rfl, h, HU.out.1⟩ : PR s y true))
            clear h HU
            have i0 := I.2.1 0 _ rfl
            have i1 := I.2.1 1 _ rfl
            have i2 := I.2.1 2 _ rfl
            have i3 := I.2.1 3 _ rfl
            have i4 := I.2.1 4 _ rfl
            have f0 := I.2.2 0
            have f1 := I.2.2 1
            have f2 := I.2.2 2
            have f3 := I.2.2 3
            have f4 := I.2.2 4
            have hzr := I.1
            have j0 := J.2.1 0 _ rfl
            have j1 := J.2.1 1 _ rfl
            have j2 := J.2.1 2 _ rfl
            have j3 := J.2.1 3 _ rfl
            have j4 := J.2.1 4 _ rfl
            go_wp2_with (fail)
            have I9 := I.putA (Sd.enc (y)) rfl
            have b9 := bset B (Nat.le_refl _) (Sd.enc (y)) 0
            simp only [Sd.enc, z8, World.setCells, Nat.zero_add, Nat.reduceAdd] at I9 b9
            have e0 := I9.2.1 0 _ rfl
            have e1 := I9.2.1 1 _ rfl
            have e2 := I9.2.1 2 _ rfl
            have e3 := I9.2.1 3 _ rfl
            have e4 := I9.2.1 4 _ rfl
            exact bodyPost_ret (v := .tuple #[.agg #[.int .i64 (y).id, .int .i64 (y).x, .int .i64 (y).y, .int .i64 (y).depth, .int .i64 (y).doubt], .bool true]) (by simp [results, Tryd.results10, go_sem, e0, e1, e2, e3, e4, z8]) rfl ⟨by rw [HP.out.1, HP.out.2], b9⟩
end Go.Proofs.YtllionelhbjadaaDoor
