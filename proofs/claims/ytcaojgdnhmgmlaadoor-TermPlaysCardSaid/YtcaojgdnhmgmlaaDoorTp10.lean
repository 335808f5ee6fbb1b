/- term: the document's Print, walked. · term: the law's like: each term is the document's. · term: the law's alive: the chapter's example comes. · term, plainly: whether acts are few and short; the terms that acts leave. -/
import Derived.Test.YtcaojgdnhmgmlaaDoorTp09
set_option linter.unusedVariables false
set_option linter.unusedSimpArgs false
section
namespace Go.Proofs.YtcaojgdnhmgmlaaDoor.T
open Go.RowKit Go.Proofs.YtcaojgdnhmgmlaaDoor.Q Go.Proofs.YtcaojgdnhmgmlaaDoor.PTermPlays Go.Proofs.YtcaojgdnhmgmlaaDoorW.PrintWords Go.Proofs.YtcaojgdnhmgmlaaDoorW.PrintLast Go.Proofs.YtcaojgdnhmgmlaaDoorW.PrintMore
set_option linter.unusedVariables false
set_option linter.unusedSimpArgs false

set_option maxRecDepth 100000 in
set_option maxHeartbeats 4000000 in
theorem rprint_calls (xs : List S104) (hn : xs.length < 100000) (hf : Fine xs) (id : Int) (w : World) (A0 : Option Addr) (c0 : Nat) (hr : Kd.C k104 w A0 xs.length xs) (hc : xs.length ≤ c0) :
    Calls Tryd.prog 93 #[.slice A0 xs.length c0, .int .i64 id] w fun e w' => e = .returned (.string ⟨(printT xs id).toArray⟩) ∧ Below w.heap.size w w' := by
  have HT : Aside0 (Calls Tryd.prog 111 #[.slice A0 xs.length c0, .int .i64 id] w fun e w' => e = .returned (.bool (thereB xs.length id)) ∧ Below w.heap.size w w') :=
    ⟨(oublietteref15_Table_there.calls A0 c0 xs id (thereB xs.length id) w hr hc (rthere_eq xs id)).mono fun e w' ⟨a, b⟩ => ⟨a, b.below⟩⟩
  unfold printT
  cases hq : thereB xs.length id
  · rw [hq] at HT
    rw [if_neg (by decide)]
    clear hr hq hf hn hc
    go_enter Tryd.func93, Tryd.ntmps93
    go_wp2_with fail
    refine HT.out.mono ?_
    rintro e w1 ⟨rfl, hb⟩
    have HB := Aside0.mk hb
    clear hb
    go_wp2_with fail
    go_ret
    exact ⟨rfl, HB.out⟩
  · rw [hq] at HT
    rw [if_pos rfl]
    obtain ⟨h1, h2⟩ := thereB_no hq
    have HS : Aside0 (∀ w1, Below w.heap.size w w1 → Calls Tryd.prog 92 #[.slice A0 xs.length c0, .int .i64 id] w1 fun e w' => e = .returned (.int .i64 (rdOf 0 (szs xs) (id - 1))) ∧ Below w.heap.size w w') := ⟨fun w1 hb =>
      (oublietteref15_Table_Size.calls (4 * xs.length + 1) A0 c0 xs id _ w1 (Kd.C_below hr hb) hc (by rw [rsize_eq xs hn hf id _ (Nat.le_refl _), if_pos hq])).mono fun e w' ⟨a, b⟩ => ⟨a, below_step hb b⟩⟩
    by_cases hw : rdOf 0 (szs xs) (id - 1) ≤ 1000
    · rw [if_pos hw]
      have HX : Aside0 (∀ w1, Below w.heap.size w w1 → Calls Tryd.prog 114 #[.slice A0 xs.length c0, .int .i64 id] w1 fun e w' => e = .returned (.string ⟨(textF xs id.toNat id).toArray⟩) ∧ Below w.heap.size w w') := ⟨fun w1 hb =>
        (rtext_all xs hn hf id.toNat id w1 A0 c0 (Kd.C_below hr hb) h1 h2 (by omega) hw).mono fun e w' ⟨a, b⟩ => ⟨a, below_step hb b⟩⟩
      generalize textF xs id.toNat id = tx at HX ⊢
      generalize rdOf 0 (szs xs) (id - 1) = sz at HS hw
      have e2 : decide (sz > 1000) = false := decide_eq_false (by omega)
      have e3 : decide (1000 < sz) = false := decide_eq_false (by omega)
      clear hr hq hf hn hc hw h1 h2
      go_enter Tryd.func93, Tryd.ntmps93
      go_wp2_with fail
      refine HT.out.mono ?_
      rintro e w1 ⟨rfl, hb⟩
      have HB := Aside0.mk hb
      clear hb
      go_wp2_with fail
      refine (HS.out _ HB.out).mono ?_
      rintro e w2 ⟨rfl, hb⟩
      have HB2 := Aside0.mk hb
      clear hb
      go_wp2_with fail
      refine (HX.out _ HB2.out).mono ?_
      rintro e w3 ⟨rfl, hb⟩
      have HB3 := Aside0.mk hb
      clear hb
      go_wp2_with fail
      go_ret
      exact ⟨rfl, HB3.out⟩
    · rw [if_neg hw]
      generalize rdOf 0 (szs xs) (id - 1) = sz at HS hw
      have e2 : decide (sz > 1000) = true := decide_eq_true (by omega)
      have e3 : decide (1000 < sz) = true := decide_eq_true (by omega)
      clear hr hq hf hn hc hw h1 h2
      go_enter Tryd.func93, Tryd.ntmps93
      go_wp2_with fail
      refine HT.out.mono ?_
      rintro e w1 ⟨rfl, hb⟩
      have HB := Aside0.mk hb
      clear hb
      go_wp2_with fail
      refine (HS.out _ HB.out).mono ?_
      rintro e w2 ⟨rfl, hb⟩
      have HB2 := Aside0.mk hb
      clear hb
      go_wp2_with fail
      go_ret
      exact ⟨rfl, HB2.out⟩
end Go.Proofs.YtcaojgdnhmgmlaaDoor.T
end
section
namespace Go.Proofs.YtcaojgdnhmgmlaaDoor.T
open Go.RowKit Go.Proofs.YtcaojgdnhmgmlaaDoor.Q Go.Proofs.YtcaojgdnhmgmlaaDoor.PTermPlays Go.Proofs.YtcaojgdnhmgmlaaDoorW.PrintWords Go.Proofs.YtcaojgdnhmgmlaaDoorW.PrintLast Go.Proofs.YtcaojgdnhmgmlaaDoorW.PrintMore
set_option linter.unusedVariables false

/-- The program's table and the document's, both holding the terms xs. -/
structure LTab (w : World) (tb : Nat) (A0 : Option Addr) (c0 : Nat) (xs : List S104) : Prop where
  tab : ∃ At Bt ct cb, w.cell? ⟨tb, 0, none⟩ = some (.slice At xs.length ct) ∧ w.cell? ⟨tb, 1, none⟩ = some (.slice Bt xs.length cb) ∧ nodeK.C w At xs.length xs ∧ Kd.C (Kd.int .i64) w Bt (szs xs).length (szs xs)
  ref : Kd.C k104 w A0 xs.length xs
  cap : xs.length ≤ c0
  laid : LaidN w
  len : xs.length < 100000
  fine : Fine xs
theorem LTab.below {w w1 : World} {tb : Nat} {A0 : Option Addr} {c0 : Nat} {xs : List S104} (h : LTab w tb A0 c0 xs) (hb : Below w.heap.size w w1) : LTab w1 tb A0 c0 xs := by
  obtain ⟨At, Bt, ct, cb, h1, h2, h3, h4⟩ := h.tab
  exact ⟨⟨At, Bt, ct, cb, below_cell hb h1, below_cell hb h2, Kd.C_below h3 hb, Kd.C_below h4 hb⟩, Kd.C_below h.ref hb, h.cap, h.laid.below hb, h.len, h.fine⟩
set_option maxRecDepth 100000 in
set_option maxHeartbeats 8000000 in
theorem like_calls (w : World) (tb : Nat) (A0 : Option Addr) (c0 : Nat) (xs : List S104) (hT : LTab w tb A0 c0 xs) (id : Int) :
    Calls Tryd.prog 51 #[.pointer (some ⟨tb, 0, none⟩), .slice A0 xs.length c0, .int .i64 id] w fun e w' => e = .returned (.bool true) ∧ Below w.heap.size w w' := by
  have hn := hT.len
  have hf := hT.fine
  have hkinds : ∀ x ∈ xs, 1 ≤ x.f0 ∧ x.f0 ≤ 5 := hf.good.kind
  obtain ⟨q, hq⟩ : ∃ q, (if thereB xs.length id = true then (rdOf z104 xs (id - 1)).f0 else 0) = q := ⟨_, rfl⟩
  obtain ⟨p, hp⟩ : ∃ p, (if thereB xs.length id = true then partsOf (rdOf z104 xs (id - 1)) else []) = p := ⟨_, rfl⟩
  obtain ⟨lb, hlb⟩ : ∃ lb, (if thereB xs.length id = true then labelOf (rdOf z104 xs (id - 1)) else ⟨#[]⟩) = lb := ⟨_, rfl⟩
  obtain ⟨sz, hsz⟩ : ∃ sz, (if thereB xs.length id = true then rdOf 0 (szs xs) (id - 1) else 0) = sz := ⟨_, rfl⟩
  obtain ⟨tx, htx⟩ : ∃ tx, (⟨(printT xs id).toArray⟩ : ByteArray) = tx := ⟨_, rfl⟩
  have hpl : p.length ≤ 2 := by rw [← hp]; split; (unfold partsOf; split; simp; split <;> simp); simp
  have HK : Aside0 (∀ w1, Below w.heap.size w w1 → Calls Tryd.prog 84 #[.pointer (some ⟨tb, 0, none⟩), .int .i64 id] w1 fun e w' => e = .returned (.int .i64 q) ∧ Below w.heap.size w w') := ⟨fun w1 hb => by
    obtain ⟨At, Bt, ct, cb, h1, h2, h3, h4⟩ := (hT.below hb).tab
    have h := kind_calls w1 id tb At xs.length ct xs (by omega) rfl hkinds h1 h3
    rw [hq] at h
    exact h.mono fun e w' ⟨a, b⟩ => ⟨a, below_step hb b⟩⟩
  have HK2 : Aside0 (∀ w1, Below w.heap.size w w1 → Calls Tryd.prog 85 #[.slice A0 xs.length c0, .int .i64 id] w1 fun e w' => e = .returned (.int .i64 q) ∧ Below w.heap.size w w') := ⟨fun w1 hb =>
    (oublietteref15_Table_Kind.calls A0 c0 xs id q w1 (hT.below hb).ref hT.cap (by rw [rkind_eq xs hn, hq])).mono fun e w' ⟨a, b⟩ => ⟨a, below_step hb b.below⟩⟩
  have HP : Aside0 (∀ w1, Below w.heap.size w w1 → Calls Tryd.prog 87 #[.pointer (some ⟨tb, 0, none⟩), .int .i64 id] w1 fun e w' => ∃ A c, e = .returned (.slice A p.length c) ∧ p.length ≤ c ∧ Kd.C (Kd.int .i64) w' A p.length p ∧ Below w.heap.size w w') := ⟨fun w1 hb => by
    obtain ⟨At, Bt, ct, cb, h1, h2, h3, h4⟩ := (hT.below hb).tab
    have h := parts_calls w1 id tb At xs.length ct xs (by omega) rfl hkinds h1 h3
    rw [hp] at h
    exact h.mono fun e w' ⟨A, c, a1, a2, a3, a4⟩ => ⟨A, c, a1, a2, a3, below_step hb a4⟩⟩
  have HP2 : Aside0 (∀ w1, Below w.heap.size w w1 → Calls Tryd.prog 88 #[.slice A0 xs.length c0, .int .i64 id] w1 fun e w' => ∃ A c, e = .returned (.slice A p.length c) ∧ p.length ≤ c ∧ Kd.C (Kd.int .i64) w' A p.length p ∧ Below w1.heap.size w1 w') := ⟨fun w1 hb =>
    (oublietteref15_Table_Parts.calls 1 A0 c0 xs id p w1 (hT.below hb).ref hT.cap (by rw [rparts_eq xs hn id 1 (Nat.le_refl _), hp])).mono fun e w' ⟨v, a, b, c⟩ => by
      obtain ⟨A, cc, rfl, hc, hC⟩ := Kd.R_reads b
      exact ⟨A, cc, a, hc, hC, c⟩⟩
  have HI : Aside0 (∀ w1 A c A' c', Below w.heap.size w w1 → p.length ≤ c → Kd.C (Kd.int .i64) w1 A p.length p → p.length ≤ c' → Kd.C (Kd.int .i64) w1 A' p.length p → Calls Tryd.prog 86 #[.slice A p.length c, .slice A' p.length c'] w1 fun e w' => e = .returned (.bool true) ∧ Below w.heap.size w w') := ⟨fun w1 A c A' c' hb h1 h2 h3 h4 =>
    (oublietteref01_Ints.calls (p.length + 1) A c p A' c' p true w1 h2 h1 h4 h3 (rints_eq p (by omega) _ (Nat.le_refl _))).mono fun e w' ⟨a, b⟩ => ⟨a, below_step hb b.below⟩⟩
  have HL : Aside0 (∀ w1, Below w.heap.size w w1 → Calls Tryd.prog 89 #[.pointer (some ⟨tb, 0, none⟩), .int .i64 id] w1 fun e w' => e = .returned (.string lb) ∧ Below w.heap.size w w') := ⟨fun w1 hb => by
    obtain ⟨At, Bt, ct, cb, h1, h2, h3, h4⟩ := (hT.below hb).tab
    have h := label_calls w1 id tb At xs.length ct xs (by omega) rfl hkinds h1 h3
    rw [hlb] at h
    exact h.mono fun e w' ⟨a, b⟩ => ⟨a, below_step hb b⟩⟩
  have HL2 : Aside0 (∀ w1, Below w.heap.size w w1 → Calls Tryd.prog 90 #[.slice A0 xs.length c0, .int .i64 id] w1 fun e w' => e = .returned (.string lb) ∧ Below w.heap.size w w') := ⟨fun w1 hb =>
    (oublietteref15_Table_Label.calls A0 c0 xs id lb w1 (hT.below hb).ref hT.cap (by rw [rlabel_eq xs hn hf, hlb])).mono fun e w' ⟨a, b⟩ => ⟨a, below_step hb b.below⟩⟩
  have HS : Aside0 (∀ w1, Below w.heap.size w w1 → Calls Tryd.prog 91 #[.pointer (some ⟨tb, 0, none⟩), .int .i64 id] w1 fun e w' => e = .returned (.int .i64 sz) ∧ Below w.heap.size w w') := ⟨fun w1 hb => by
    obtain ⟨At, Bt, ct, cb, h1, h2, h3, h4⟩ := (hT.below hb).tab
    have h := size_calls w1 id tb At Bt xs.length ct cb (szs xs) (by omega) (szs_length xs) h1 h2 h4
    rw [hsz] at h
    exact h.mono fun e w' ⟨a, b⟩ => ⟨a, below_step hb b⟩⟩
  have HS2 : Aside0 (∀ w1, Below w.heap.size w w1 → Calls Tryd.prog 92 #[.slice A0 xs.length c0, .int .i64 id] w1 fun e w' => e = .returned (.int .i64 sz) ∧ Below w.heap.size w w') := ⟨fun w1 hb =>
    (oublietteref15_Table_Size.calls (4 * xs.length + 1) A0 c0 xs id sz w1 (hT.below hb).ref hT.cap (by rw [rsize_eq xs hn hf id _ (Nat.le_refl _), hsz])).mono fun e w' ⟨a, b⟩ => ⟨a, below_step hb b⟩⟩
  have HT : Aside0 (∀ w1, Below w.heap.size w w1 → Calls Tryd.prog 77 #[.pointer (some ⟨tb, 0, none⟩), .int .i64 id] w1 fun e w' => e = .returned (.string tx) ∧ Below w.heap.size w w') := ⟨fun w1 hb => by
    obtain ⟨At, Bt, ct, cb, h1, h2, h3, h4⟩ := (hT.below hb).tab
    have h := print_calls w1 id tb At Bt ct cb xs hn hf h1 h2 h3 h4 (hT.below hb).laid
    rw [htx] at h
    exact h.mono fun e w' ⟨a, b⟩ => ⟨a, below_step hb b⟩⟩
  have HT2 : Aside0 (∀ w1, Below w.heap.size w w1 → Calls Tryd.prog 93 #[.slice A0 xs.length c0, .int .i64 id] w1 fun e w' => e = .returned (.string tx) ∧ Below w.heap.size w w') := ⟨fun w1 hb =>
    (rprint_calls xs hn hf id w1 A0 c0 (hT.below hb).ref hT.cap).mono fun e w' ⟨a, b⟩ => ⟨a.trans (by rw [htx]), below_step hb b⟩⟩
  have HB0 := Aside0.mk (Below.refl w.heap.size w)
  clear hq hp hlb hsz htx hpl hkinds hn hf hT
  by_cases h40 : sz ≤ 40
  · have e1 : decide (sz > 40) = false := decide_eq_false (by omega)
    have e2 : decide (40 < sz) = false := decide_eq_false (by omega)
    clear h40
    go_enter Tryd.func51, Tryd.ntmps51
    go_wp2_with fail
    refine (HK.out _ HB0.out).mono ?_
    rintro e w1 ⟨rfl, hb⟩
    have HB1 := Aside0.mk hb
    clear hb
    go_wp2_with fail
    refine (HK2.out _ HB1.out).mono ?_
    rintro e w2 ⟨rfl, hb⟩
    have HB2 := Aside0.mk hb
    clear hb
    go_wp2_with fail
    refine (HP.out _ HB2.out).mono ?_
    rintro e w3 ⟨A1, c1, rfl, hc1, hC1, hb⟩
    have HB3 := Aside0.mk hb
    have HC1 := Aside0.mk hC1
    have HD1 := Aside0.mk hc1
    clear hb hC1 hc1
    go_wp2_with fail
    refine (HP2.out _ HB3.out).mono ?_
    rintro e w4 ⟨A2, c2, rfl, hc2, hC2, hb⟩
    have HB4 := Aside0.mk (below_step HB3.out hb)
    have HC2 := Aside0.mk hC2
    have HD2 := Aside0.mk hc2
    have HC3 := Aside0.mk (Kd.C_below HC1.out hb)
    clear hb hC2 hc2
    go_wp2_with fail
    refine (HI.out _ _ _ _ _ HB4.out HD1.out HC3.out HD2.out HC2.out).mono ?_
    rintro e w5 ⟨rfl, hb⟩
    have HB5 := Aside0.mk hb
    clear hb
    go_wp2_with fail
    refine (HL.out _ HB5.out).mono ?_
    rintro e w6 ⟨rfl, hb⟩
    have HB6 := Aside0.mk hb
    clear hb
    go_wp2_with fail
    refine (HL2.out _ HB6.out).mono ?_
    rintro e w7 ⟨rfl, hb⟩
    have HB7 := Aside0.mk hb
    clear hb
    go_wp2_with fail
    refine (HS.out _ HB7.out).mono ?_
    rintro e w8 ⟨rfl, hb⟩
    have HB8 := Aside0.mk hb
    clear hb
    go_wp2_with fail
    refine (HS2.out _ HB8.out).mono ?_
    rintro e w9 ⟨rfl, hb⟩
    have HB9 := Aside0.mk hb
    clear hb
    go_wp2_with fail
    refine (HS2.out _ HB9.out).mono ?_
    rintro e w10 ⟨rfl, hb⟩
    have HB10 := Aside0.mk hb
    clear hb
    go_wp2_with fail
    refine (HT.out _ HB10.out).mono ?_
    rintro e w11 ⟨rfl, hb⟩
    have HB11 := Aside0.mk hb
    clear hb
    go_wp2_with fail
    refine (HT2.out _ HB11.out).mono ?_
    rintro e w12 ⟨rfl, hb⟩
    have HB12 := Aside0.mk hb
    clear hb
    go_wp2_with fail
    go_ret
    exact ⟨rfl, HB12.out⟩
  · by_cases h1000 : sz ≤ 1000
    · have e1 : decide (sz > 40) = true := decide_eq_true (by omega)
      have e2 : decide (40 < sz) = true := decide_eq_true (by omega)
      have e3 : decide (sz ≤ 1000) = true := decide_eq_true h1000
      clear h40 h1000
      go_enter Tryd.func51, Tryd.ntmps51
      go_wp2_with fail
      refine (HK.out _ HB0.out).mono ?_
      rintro e w1 ⟨rfl, hb⟩
      have HB1 := Aside0.mk hb
      clear hb
      go_wp2_with fail
      refine (HK2.out _ HB1.out).mono ?_
      rintro e w2 ⟨rfl, hb⟩
      have HB2 := Aside0.mk hb
      clear hb
      go_wp2_with fail
      refine (HP.out _ HB2.out).mono ?_
      rintro e w3 ⟨A1, c1, rfl, hc1, hC1, hb⟩
      have HB3 := Aside0.mk hb
      have HC1 := Aside0.mk hC1
      have HD1 := Aside0.mk hc1
      clear hb hC1 hc1
      go_wp2_with fail
      refine (HP2.out _ HB3.out).mono ?_
      rintro e w4 ⟨A2, c2, rfl, hc2, hC2, hb⟩
      have HB4 := Aside0.mk (below_step HB3.out hb)
      have HC2 := Aside0.mk hC2
      have HD2 := Aside0.mk hc2
      have HC3 := Aside0.mk (Kd.C_below HC1.out hb)
      clear hb hC2 hc2
      go_wp2_with fail
      refine (HI.out _ _ _ _ _ HB4.out HD1.out HC3.out HD2.out HC2.out).mono ?_
      rintro e w5 ⟨rfl, hb⟩
      have HB5 := Aside0.mk hb
      clear hb
      go_wp2_with fail
      refine (HL.out _ HB5.out).mono ?_
      rintro e w6 ⟨rfl, hb⟩
      have HB6 := Aside0.mk hb
      clear hb
      go_wp2_with fail
      refine (HL2.out _ HB6.out).mono ?_
      rintro e w7 ⟨rfl, hb⟩
      have HB7 := Aside0.mk hb
      clear hb
      go_wp2_with fail
      refine (HS.out _ HB7.out).mono ?_
      rintro e w8 ⟨rfl, hb⟩
      have HB8 := Aside0.mk hb
      clear hb
      go_wp2_with fail
      refine (HS2.out _ HB8.out).mono ?_
      rintro e w9 ⟨rfl, hb⟩
      have HB9 := Aside0.mk hb
      clear hb
      go_wp2_with fail
      refine (HS2.out _ HB9.out).mono ?_
      rintro e w10 ⟨rfl, hb⟩
      have HB10 := Aside0.mk hb
      clear hb
      go_wp2_with fail
      refine (HS2.out _ HB10.out).mono ?_
      rintro e w11 ⟨rfl, hb⟩
      have HB11 := Aside0.mk hb
      clear hb
      go_wp2_with fail
      go_ret
      exact ⟨rfl, HB11.out⟩
    · have e1 : decide (sz > 40) = true := decide_eq_true (by omega)
      have e2 : decide (40 < sz) = true := decide_eq_true (by omega)
      have e3 : decide (sz ≤ 1000) = false := decide_eq_false h1000
      clear h40 h1000
      go_enter Tryd.func51, Tryd.ntmps51
      go_wp2_with fail
      refine (HK.out _ HB0.out).mono ?_
      rintro e w1 ⟨rfl, hb⟩
      have HB1 := Aside0.mk hb
      clear hb
      go_wp2_with fail
      refine (HK2.out _ HB1.out).mono ?_
      rintro e w2 ⟨rfl, hb⟩
      have HB2 := Aside0.mk hb
      clear hb
      go_wp2_with fail
      refine (HP.out _ HB2.out).mono ?_
      rintro e w3 ⟨A1, c1, rfl, hc1, hC1, hb⟩
      have HB3 := Aside0.mk hb
      have HC1 := Aside0.mk hC1
      have HD1 := Aside0.mk hc1
      clear hb hC1 hc1
      go_wp2_with fail
      refine (HP2.out _ HB3.out).mono ?_
      rintro e w4 ⟨A2, c2, rfl, hc2, hC2, hb⟩
      have HB4 := Aside0.mk (below_step HB3.out hb)
      have HC2 := Aside0.mk hC2
      have HD2 := Aside0.mk hc2
      have HC3 := Aside0.mk (Kd.C_below HC1.out hb)
      clear hb hC2 hc2
      go_wp2_with fail
      refine (HI.out _ _ _ _ _ HB4.out HD1.out HC3.out HD2.out HC2.out).mono ?_
      rintro e w5 ⟨rfl, hb⟩
      have HB5 := Aside0.mk hb
      clear hb
      go_wp2_with fail
      refine (HL.out _ HB5.out).mono ?_
      rintro e w6 ⟨rfl, hb⟩
      have HB6 := Aside0.mk hb
      clear hb
      go_wp2_with fail
      refine (HL2.out _ HB6.out).mono ?_
      rintro e w7 ⟨rfl, hb⟩
      have HB7 := Aside0.mk hb
      clear hb
      go_wp2_with fail
      refine (HS.out _ HB7.out).mono ?_
      rintro e w8 ⟨rfl, hb⟩
      have HB8 := Aside0.mk hb
      clear hb
      go_wp2_with fail
      refine (HS2.out _ HB8.out).mono ?_
      rintro e w9 ⟨rfl, hb⟩
      have HB9 := Aside0.mk hb
      clear hb
      go_wp2_with fail
      refine (HS2.out _ HB9.out).mono ?_
      rintro e w10 ⟨rfl, hb⟩
      have HB10 := Aside0.mk hb
      clear hb
      go_wp2_with fail
      refine (HS2.out _ HB10.out).mono ?_
      rintro e w11 ⟨rfl, hb⟩
      have HB11 := Aside0.mk hb
      clear hb
      go_wp2_with fail
      refine (HT.out _ HB11.out).mono ?_
      rintro e w12 ⟨rfl, hb⟩
      have HB12 := Aside0.mk hb
      clear hb
      go_wp2_with fail
      refine (HT2.out _ HB12.out).mono ?_
      rintro e w13 ⟨rfl, hb⟩
      have HB13 := Aside0.mk hb
      clear hb
      go_wp2_with fail
      go_ret
      exact ⟨rfl, HB13.out⟩
end Go.Proofs.YtcaojgdnhmgmlaaDoor.T
end
section
namespace Go.Proofs.YtcaojgdnhmgmlaaDoor.T
open Go.RowKit Go.Proofs.YtcaojgdnhmgmlaaDoor.Q Go.Proofs.YtcaojgdnhmgmlaaDoor.PTermPlays Go.Proofs.YtcaojgdnhmgmlaaDoorW.PrintWords Go.Proofs.YtcaojgdnhmgmlaaDoorW.PrintLast Go.Proofs.YtcaojgdnhmgmlaaDoorW.PrintMore
set_option linter.unusedVariables false

theorem TabS.facts {base : Nat} {F : Nat → Prop} {w : World} {tb mp : Nat} {xs : List S104} (h : TabS base F w tb mp xs) :
    ∃ At Bt ct cb, w.cell? ⟨tb, 0, none⟩ = some (.slice At xs.length ct) ∧ w.cell? ⟨tb, 1, none⟩ = some (.slice Bt xs.length cb) ∧ nodeK.C w At xs.length xs ∧ Kd.C (Kd.int .i64) w Bt (szs xs).length (szs xs) := by
  obtain ⟨A, B, es, clk, hR, _⟩ := h
  obtain ⟨At, ca, rfl, _, hA⟩ := Kd.R_reads hR.la
  obtain ⟨Bt, cb, rfl, _, hB⟩ := Kd.R_reads hR.lb
  exact ⟨At, Bt, ca, cb, tab_cell hR.cells 0, by rw [← szs_length xs]; exact tab_cell hR.cells 1, hA, hB⟩
/-- What is old stays old, the table being new. -/
theorem below_made {w w1 w2 : World} (h : Below w.heap.size w w1) (hq : Quiet w1 w2) (hk : ∀ k, k < w1.heap.size → ¬ w.heap.size ≤ k → w2.heap[k]? = w1.heap[k]?) : Below w.heap.size w w2 :=
  ⟨hq.os.trans h.os, hq.tape.trans h.tape, hq.output.trans h.output, Nat.le_trans h.size hq.size, fun k hl => (hk k (Nat.lt_of_lt_of_le hl h.size) (by omega)).trans (h.block k hl)⟩
def xa0 : S104 := ⟨1, 0, 0, ⟨#[]⟩, 0⟩
def xa1 : S104 := ⟨1, 0, 0, ⟨#[]⟩, 1⟩
def xe : S104 := ⟨5, 1, 2, ⟨#[]⟩, 0⟩
theorem aliveFine : Fine [xa0, xa1, xe] := by
  intro i hi
  rcases i with _ | _ | _ | i
  · show FineAt 0 xa0
    exact ⟨by decide, fun h => absurd rfl h, fun _ => by decide, fun _ => rfl, fun h => absurd h (by decide), fun h => absurd h (by decide), by decide⟩
  · show FineAt 1 xa1
    exact ⟨by decide, fun h => absurd rfl h, fun _ => by decide, fun _ => rfl, fun h => absurd h (by decide), fun h => absurd h (by decide), by decide⟩
  · show FineAt 2 xe
    exact ⟨by decide, fun _ => rfl, fun h => absurd h (by decide), fun _ => rfl, fun _ => by decide, fun _ => by decide, by decide⟩
  · simp at hi; omega
theorem aliveFound : foundR [xa0, xa1] ⟨5, 1, 2, ⟨#[]⟩, 0⟩ [1, 2] = ([xa0, xa1, xe], 3) := by
  unfold foundR
  rw [if_neg (by decide), if_neg (by decide)]
  rfl
theorem itoa_small (n : Nat) (h : n < 10) : Lib.itoa (n : Int) = [UInt8.ofNat (48 + n)] := by
  unfold Lib.itoa
  rw [if_neg (by omega), Int.toNat_natCast, dec_one n h]
theorem textF_atom (xs : List S104) (k : Nat) (id : Int) (h : (rdOf z104 xs (id - 1)).f0 = 1) : textF xs (k + 1) id = 97 :: Lib.itoa (rdOf z104 xs (id - 1)).f4 := by rw [textF, if_pos h]
theorem alivePrint : printT [xa0, xa1, xe] 3 = [101, 110, 99, 40, 97, 48, 44, 97, 49, 41] := by
  have h0 : textF [xa0, xa1, xe] 2 1 = [97, 48] := by rw [textF_atom _ _ _ (by decide)]; exact congrArg (97 :: ·) (itoa_small 0 (by decide))
  have h1 : textF [xa0, xa1, xe] 2 2 = [97, 49] := by rw [textF_atom _ _ _ (by decide)]; exact congrArg (97 :: ·) (itoa_small 1 (by decide))
  unfold printT
  rw [if_pos (by decide), if_pos (by decide), show (3 : Int).toNat = 2 + 1 from rfl, textF]
  rw [show rdOf z104 [xa0, xa1, xe] (3 - 1) = xe from rfl, if_neg (by decide), if_neg (by decide), if_neg (by decide), show xe.f1 = 1 from rfl, show xe.f2 = 2 from rfl, h0, h1]
  rfl
set_option maxRecDepth 100000 in
set_option maxHeartbeats 4000000 in
theorem alive_calls (w : World) (hL : LaidN w) : Calls Tryd.prog 46 #[] w fun e w' => e = .returned (.bool true) ∧ Below w.heap.size w w' := by
  have HL := Aside0.mk hL
  clear hL
  go_enter Tryd.func46, Tryd.ntmps46
  go_wp2_with fail
  refine (new_calls w).mono ?_
  rintro e w1 ⟨tb, mp, rfl, hT, hb⟩
  have HT1 := Aside0.mk hT
  have HB1 := Aside0.mk hb
  clear hT hb
  go_wp2_with fail
  refine (atom_calls w.heap.size (fun k => w.heap.size ≤ k) w1 tb mp [] HT1.out (by simp)).mono ?_
  rintro e w2 ⟨rfl, hT, hq, hk⟩
  have HT2 : Aside0 (TabS w.heap.size (fun k => w.heap.size ≤ k) w2 tb mp [xa0]) := ⟨TabS.more (xs := [xa0]) hT (fun k hk => hk.elim id (fun h => Nat.le_trans HB1.out.size h))⟩
  have HB2 := Aside0.mk (below_made HB1.out hq hk)
  clear hT hq hk
  go_wp2_with fail
  refine (atom_calls w.heap.size (fun k => w.heap.size ≤ k) w2 tb mp [xa0] HT2.out (by simp)).mono ?_
  rintro e w3 ⟨rfl, hT, hq, hk⟩
  have HT3 : Aside0 (TabS w.heap.size (fun k => w.heap.size ≤ k) w3 tb mp [xa0, xa1]) := ⟨TabS.more (xs := [xa0, xa1]) hT (fun k hk => hk.elim id (fun h => Nat.le_trans HB2.out.size h))⟩
  have HB3 := Aside0.mk (below_made HB2.out hq hk)
  clear hT hq hk
  go_wp2_with fail
  have hen := enc_calls w.heap.size (fun k => w.heap.size ≤ k) w3 tb mp [xa0, xa1] HT3.out (by simp) 1 2
  rw [aliveFound] at hen
  have HEN := Aside0.mk hen
  clear hen
  refine HEN.out.mono ?_
  rintro e w4 ⟨rfl, hT, hq, hk⟩
  have HT4 : Aside0 (TabS w.heap.size (fun k => w.heap.size ≤ k) w4 tb mp [xa0, xa1, xe]) := ⟨TabS.more (xs := [xa0, xa1, xe]) hT (fun k hk => hk.elim id (fun h => Nat.le_trans HB3.out.size h))⟩
  have HB4 := Aside0.mk (below_made HB3.out hq hk)
  clear hT hq hk HEN
  have HPR : Aside0 (Calls Tryd.prog 77 #[.pointer (some ⟨tb, 0, none⟩), .int .i64 3] w4 fun e w' => e = .returned (.string ⟨#[101, 110, 99, 40, 97, 48, 44, 97, 49, 41]⟩) ∧ Below w.heap.size w w') := ⟨by
    obtain ⟨At, Bt, ct, cb, h1, h2, h3, h4⟩ := HT4.out.facts
    have h := print_calls w4 3 tb At Bt ct cb [xa0, xa1, xe] (by simp) aliveFine h1 h2 h3 h4 (HL.out.below HB4.out)
    rw [alivePrint] at h
    exact h.mono fun e w' ⟨a, b⟩ => ⟨a, below_step HB4.out b⟩⟩
  go_wp2_with fail
  refine HPR.out.mono ?_
  rintro e w5 ⟨rfl, hb⟩
  have HB5 := Aside0.mk hb
  clear hb
  go_wp2_with fail
  go_ret
  exact ⟨rfl, HB5.out⟩
end Go.Proofs.YtcaojgdnhmgmlaaDoor.T
end
section
namespace Go.Proofs.YtcaojgdnhmgmlaaDoor.T
open Go.RowKit Go.Proofs.YtcaojgdnhmgmlaaDoor.Q Go.Proofs.YtcaojgdnhmgmlaaDoor.PTermPlays Go.Proofs.YtcaojgdnhmgmlaaDoorW.PrintWords Go.Proofs.YtcaojgdnhmgmlaaDoorW.PrintLast
set_option linter.unusedVariables false
theorem rda (l : List S68) (i : Nat) (h : i < l.length) : rd_T68 l (i : Int) = l[i] := by
  unfold rd_T68; rw [Int.toNat_natCast, List.getD_eq_getElem?_getD, List.getElem?_eq_getElem h]; rfl
theorem rlight_go (l : List S68) (hl : l.length ≤ 60) : ∀ (j i : Nat), i + j = l.length → ∃ b, oubliettelaw15_Light.l0 (j + 1) l i = some b ∧ (b = true → ∀ m, i ≤ m → ∀ h : m < l.length, l[m].f3.size ≤ 40)
  | 0, i, hi => ⟨true, by rw [oubliettelaw15_Light.l0, if_neg (by omega)], fun _ m h1 h2 => by omega⟩
  | j + 1, i, hi => by
    have hil : i < l.length := by omega
    obtain ⟨b, hb, hs⟩ := rlight_go l hl j (i + 1) (by omega)
    rw [oubliettelaw15_Light.l0, if_pos (by omega), if_pos (by omega), rda l i hil]
    by_cases h : (l[i].f3.size : Int) > 40
    · rw [if_pos h]
      exact ⟨false, rfl, fun e => by cases e⟩
    · rw [if_neg h, show wrap64 ((i : Int) + 1) = ((i + 1 : Nat) : Int) by unfold wrap64; omega]
      refine ⟨b, hb, fun e m h1 h2 => ?_⟩
      by_cases hm : m = i
      · subst hm; omega
      · exact hs e m (by omega) h2
/-- Whether acts are few and short: an answer comes; if it is yes, they are. -/
theorem rlight (l : List S68) : ∃ k b, oubliettelaw15_Light.f k l = some b ∧ (b = true → l.length ≤ 60 ∧ ∀ m (h : m < l.length), l[m].f3.size ≤ 40) := by
  by_cases hl : l.length ≤ 60
  · obtain ⟨b, hb, hs⟩ := rlight_go l hl l.length 0 (by omega)
    exact ⟨l.length + 1, b, by unfold oubliettelaw15_Light.f; rw [if_neg (by omega)]; exact hb, fun e => ⟨hl, fun m h => hs e m (Nat.zero_le _) h⟩⟩
  · exact ⟨0, false, by unfold oubliettelaw15_Light.f; rw [if_pos (by omega)], fun e => by cases e⟩
/-- The terms behind the first i acts. -/
def actsX (l : List S68) : Nat → List S104
  | 0 => []
  | i + 1 => (doR (actsX l i) (rd_T68 l (i : Int))).1
theorem actsX_fine (l : List S68) (hs : ∀ m (h : m < l.length), l[m].f3.size ≤ 40) : ∀ i, i ≤ l.length → Fine (actsX l i) ∧ (actsX l i).length ≤ i
  | 0, _ => ⟨Fine.nil, Nat.le_refl _⟩
  | i + 1, hi => by
    obtain ⟨h1, h2⟩ := actsX_fine l hs i (by omega)
    have hil : i < l.length := by omega
    have h3 := h1.doR (rd_T68 l (i : Int)) (by rw [rda l i hil]; exact hs i hil)
    exact ⟨h3.1, by have := h3.2.2; rw [actsX]; omega⟩
end Go.Proofs.YtcaojgdnhmgmlaaDoor.T
end
