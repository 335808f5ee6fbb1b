import Derived.Test.YtcaojgdnhmgmlaaDoorNb02
import Derived.Test.YtcaojgdnhmgmlaaDoorNb12
import Derived.Lib.OthersKept
import Derived.Laws.Cover4
import Derived.Test.YtcaojgdnhmgmlaaDoorNb01
section
/- utf.Runes, by hand: the runes of a text, or where it has none. -/
namespace Go.Proofs.YtcaojgdnhmgmlaaDoor.Q
open Go.RowKit Go.Sort Go.Proofs.YtcaojgdnhmgmlaaDoorW.PrintWords Go.Proofs.YtcaojgdnhmgmlaaDoorW.PrintLast Go.Proofs.YtcaojgdnhmgmlaaDoorW.PrintMore
set_option linter.unusedVariables false

def runesR (q : List Int × Option Nat) : List Int × Int × Int := match q.2 with
  | none => (q.1, 0, 0)
  | some p => ([], (p : Int), 4)
def utf_Runes.f (a0 : ByteArray) : Option (List Int × Int × Int) := if a0.size < 1000000 then some (runesR (runesOf a0)) else none

/-- The runes from p on, behind those that were read. -/
def runesC (acc : List Int) (q : List Int × Option Nat) : List Int × Int × Int := runesR (acc ++ q.1, q.2)

set_option maxHeartbeats 4000000 in
set_option maxRecDepth 100000 in
theorem utf_Runes.calls (a0 : ByteArray) (r1 : List Int) (r2 : Int) (r3 : Int) (w : World) (hlaidU : LaidU w) (h : utf_Runes.f a0 = some (r1, r2, r3)) :
    Calls Tryd.prog 21 #[.string a0] w fun e w' => ∃ v0_ : Value, e = .returned (.tuple #[v0_, .int .i64 r2, .int .i64 r3]) ∧ Kd.R (Kd.int .i32) 21 w' w.heap.size (fun _ => True) v0_ r1 ∧ Below w.heap.size w w' := by
  unfold utf_Runes.f at h
  split at h
  case isFalse => cases h
  rename_i hs
  have h := Option.some.inj h
  have HH : Aside0 (runesC [] (scan a0 a0.size 0) = (r1, r2, r3)) := ⟨h⟩
  have HS := Aside0.mk hs
  have HL := Aside0.mk hlaidU
  clear h hs hlaidU
  go_enter Tryd.func21, Tryd.ntmps21
  go_wp2_with fail
  go_loopw [2] (fun v wr => ∃ (pos fuel : Nat) (acc : List Int), Aside0 (runesC acc (scan a0 fuel pos) = (r1, r2, r3)) ∧ Aside0 (acc.length ≤ pos) ∧ Aside0 (a0.size ≤ pos + fuel) ∧ Aside0 (Kd.R (Kd.int .i32) 21 wr w.heap.size (fun k => k ≠ w.heap.size) v acc) ∧ Aside0 (wr.heap[w.heap.size]? = some (.stringIter a0 pos)) ∧ Aside0 (Below w.heap.size w wr)) (fun _ wr => a0.size - wr.iterPos w.heap.size)
  case atStart => exact ⟨0, a0.size, [], HH, ⟨by simp⟩, ⟨by omega⟩, ⟨Kd.R_nil _ _ _ _ _⟩, ⟨World.iter_heap w a0 0⟩, ⟨below_alloc (Below.refl _ _) _⟩⟩
  case round =>
    clear HH
    obtain ⟨pos, fuel, acc, HH, HA, HF, HO, HI, HB⟩ := hrel
    by_cases hp : pos < a0.size
    · have hnx : ∀ ty, (Instr.next (.pointer (some ⟨w.heap.size, 0, none⟩)) true ty).run Tryd.prog wr = _ := fun ty => Lib.run_next_any_at wr w.heap.size a0 pos ty HI.out hp
      have HW := Aside0.mk (wid_pos a0 pos)
      have hpos : wr.iterPos w.heap.size = pos := by simp only [World.iterPos, HI.out]
      obtain ⟨c, n, hd⟩ : ∃ c n, Utf8.decode a0 pos = (c, n) := ⟨_, _, rfl⟩
      have hbk : brk a0 pos = (decide (c = 65533) && decide (n < 2)) := by simp [brk, hd]
      have hde := dec_ext a0 pos hp
      rw [hd] at hde
      simp only [hd] at hnx HW
      have HI2 := Aside0.mk (Lib.iterAt_heap wr w.heap.size a0 pos (pos + n) HI.out)
      have HB2 := Aside0.mk (Lib.below_iterAt HB.out (k := w.heap.size) (Nat.le_refl _) a0 (pos + n))
      have HO2 := Aside0.mk (Kd.R_step HO.out (w1 := wr.iterAt w.heap.size a0 (pos + n)) (fun k ho _ => Lib.iterAt_other wr w.heap.size k a0 _ ho))
      have hlt : w.heap.size < wr.heap.size := (Array.getElem?_eq_some_iff.1 HI.out).1
      have HZ := Aside0.mk (show w.heap.size < (wr.iterAt w.heap.size a0 (pos + n)).heap.size by rw [Lib.iterAt_size]; exact hlt)
      clear hlt HO HB HI
      obtain ⟨f, rfl⟩ : ∃ f, fuel = f + 1 := ⟨fuel - 1, by have := HF.out; omega⟩
      have HP := Aside0.mk hpos
      clear hpos h
      generalize hW1 : wr.iterAt w.heap.size a0 (pos + n) = W1 at hnx HI2 HB2 HO2 HZ
      clear hW1
      have HL2 := Aside0.mk (show acc.length < 1000000 by have := HA.out; have := HS.out; omega)
      by_cases he : c = 65533
      · have hed : ((c : Int) == 65533) = true := by rw [he]; rfl
        have he0 : (0 : Int) ≤ pos := by omega
        have he1 : decide ((pos : Int) ≤ a0.size) = true := decide_eq_true (by omega)
        go_wp2_with fail
        refine (Tryd.utf8_DecodeRuneInString _ W1 (LaidU.below HL.out HB2.out).tabs).mono ?_
        rw [hde]
        rintro e w2 ⟨rfl, hb2⟩
        replace HI2 := Aside0.mk ((hb2.block w.heap.size HZ.out).trans HI2.out)
        replace HO2 := Aside0.mk (Kd.R_below HO2.out hb2)
        replace HB2 := Aside0.mk (below_step HB2.out hb2)
        replace HZ := Aside0.mk (show w.heap.size < w2.heap.size by have := HZ.out; have := hb2.size; omega)
        clear hb2
        by_cases hn2 : n < 2
        · have hne : decide ((n : Int) < 2) = true := decide_eq_true (by omega)
          have hbt : brk a0 pos = true := by rw [hbk, decide_eq_true he, decide_eq_true hn2]; rfl
          go_wp2_with fail
          go_ret3
          have h1 := HH.out
          rw [scan_brk a0 f pos hp hbt] at h1
          simp only [runesC, runesR, Prod.mk.injEq] at h1
          obtain ⟨rfl, rfl, rfl⟩ := h1
          exact ⟨_, rfl, Kd.R_nil _ _ _ _ _, HB2.out⟩
        · have hne : decide ((n : Int) < 2) = false := decide_eq_false (by omega)
          have hbf : brk a0 pos = false := by rw [hbk, decide_eq_false hn2]; simp
          subst he
          go_wp2_with (first | ((with_reducible refine gate_builtin (b := .append) (xs := #[.tmp 27, .tmp 29]) rfl ?_); at_builtin; refine Kd.R_append (Kd.int .i32) (w0 := w) w.heap.size rfl (.tmp 27) (.tmp 29) 34 21 (.int .i32 0) 4 rfl Tryd.underlying34 info21 rfl (by decide) (by omega) u2 acc (65533 : Int) [.int .i32 65533] (fun k => k ≠ w.heap.size) (fun _ => False) rfl rfl rfl (fun _ hk => hk.elim) (fun k hk => by have := HZ.out; omega) HO2.out HB2.out HB2.out.size (by have := HL2.out; omega) ?_; intro v1 w1 ho hb hg hat; have HI3 := Aside0.mk ((hg.block w.heap.size HZ.out (fun e => HO2.out.1 _ e.symm rfl)).trans HI2.out); clear hg hat; have HO3 := Aside0.mk ho; have HB3 := Aside0.mk hb; clear ho hb HO2 HB2))
          go_roundw
          case rel => exact ⟨pos + n, f, acc ++ [(65533 : Int)], ⟨by rw [← HH.out, scan_next a0 f pos hp hbf, hd]; simp [runesC]⟩, ⟨by have := HA.out; have := HW.out; simp; omega⟩, ⟨by have := HF.out; have := HW.out; omega⟩, HO3, HI3, HB3⟩
          case measure =>
            have h1 := HP.out
            have h2 := HW.out
            simp only [World.iterPos, HI3.out] at h1 ⊢
            rw [h1]
            omega
      · have hed : ((c : Int) == 65533) = false := beq_eq_false_iff_ne.mpr (by omega)
        have hbf : brk a0 pos = false := by rw [hbk]; simp [he]
        go_wp2_with (first | ((with_reducible refine gate_builtin (b := .append) (xs := #[.tmp 27, .tmp 29]) rfl ?_); at_builtin; refine Kd.R_append (Kd.int .i32) (w0 := w) w.heap.size rfl (.tmp 27) (.tmp 29) 34 21 (.int .i32 0) 4 rfl Tryd.underlying34 info21 rfl (by decide) (by omega) u2 acc (c : Int) [.int .i32 c] (fun k => k ≠ w.heap.size) (fun _ => False) rfl rfl rfl (fun _ hk => hk.elim) (fun k hk => by have := HZ.out; omega) HO2.out HB2.out HB2.out.size (by have := HL2.out; omega) ?_; intro v1 w1 ho hb hg hat; have HI3 := Aside0.mk ((hg.block w.heap.size HZ.out (fun e => HO2.out.1 _ e.symm rfl)).trans HI2.out); clear hg hat; have HO3 := Aside0.mk ho; have HB3 := Aside0.mk hb; clear ho hb HO2 HB2))
        go_roundw
        case rel => exact ⟨pos + n, f, acc ++ [(c : Int)], ⟨by rw [← HH.out, scan_next a0 f pos hp hbf, hd]; simp [runesC]⟩, ⟨by have := HA.out; have := HW.out; simp; omega⟩, ⟨by have := HF.out; have := HW.out; omega⟩, HO3, HI3, HB3⟩
        case measure =>
          have h1 := HP.out
          have h2 := HW.out
          simp only [World.iterPos, HI3.out] at h1 ⊢
          rw [h1]
          omega
    · have hnx : ∀ ty, (Instr.next (.pointer (some ⟨w.heap.size, 0, none⟩)) true ty).run Tryd.prog wr = _ := fun ty => Lib.run_next_end_at wr w.heap.size a0 pos ty HI.out hp
      go_wp2_with fail
      go_ret3
      have h1 := HH.out
      rw [scan_end a0 fuel pos hp] at h1
      simp only [runesC, runesR, Prod.mk.injEq, List.append_nil] at h1
      obtain ⟨rfl, rfl, rfl⟩ := h1
      exact ⟨_, rfl, Kd.R_mono HO.out (fun _ _ => trivial), HB.out⟩
end Go.Proofs.YtcaojgdnhmgmlaaDoor.Q
end
section
/- utf.Fold, by hand: a text with its letters made small. -/
namespace Go.Proofs.YtcaojgdnhmgmlaaDoor.Q
open Go.RowKit Go.Sort Go.Lib Go.Proofs.YtcaojgdnhmgmlaaDoorW.PrintWords Go.Proofs.YtcaojgdnhmgmlaaDoorW.PrintLast Go.Proofs.YtcaojgdnhmgmlaaDoorW.PrintMore
set_option linter.unusedVariables false

def foldR (s : ByteArray) : ByteArray := if (runesOf s).2.isNone = true then ⟨(encL ((runesOf s).1.map sml)).toArray⟩ else ⟨#[]⟩
def utf_Fold.f (a0 : ByteArray) : Option (ByteArray) := if a0.size < 1000000 then some (foldR a0) else none

theorem sml_vld (r : Int) (h : validRune r = true) : validRune (sml r) = true := by
  rw [vld_iff] at h ⊢
  unfold sml
  split
  · rename_i hu; simp [upr] at hu; omega
  · exact h
theorem encode_eq (r : Int) (h : validRune r = true) : (Utf8.encode r).data.toList = Lib.encodeRune r := by
  rw [vld_iff] at h
  obtain ⟨c, rfl⟩ := Int.eq_ofNat_of_zero_le (show 0 ≤ r by omega)
  have hv : Utf8.valid (c : Int) = true := by simp [Utf8.valid]; omega
  have hu : ∀ x : Nat, ((x : Int).toNat.toUInt8) = UInt8.ofNat x := fun x => by rw [Int.toNat_natCast]
  unfold Utf8.encode Lib.encodeRune Lib.encodeRuneZ
  simp only [hv, if_true, Int.toNat_natCast]
  repeat' split
  all_goals first | (exfalso; omega) | rfl
theorem runesB_go : ∀ (l : List Int) (b : ByteArray), (∀ r ∈ l, validRune r = true) → (l.foldl (fun r n => r ++ Utf8.encode n) b).data.toList = b.data.toList ++ encL l
  | [], b, _ => by simp [encL]
  | r :: t, b, h => by
    rw [List.foldl_cons, runesB_go t _ (fun x hx => h x (List.mem_cons_of_mem _ hx))]
    rw [ByteArray.data_append, Array.toList_append, encode_eq r (h r (List.mem_cons_self ..))]
    simp [encL]
theorem runesB_eq (l : List Int) (h : ∀ r ∈ l, validRune r = true) : runesBytes l = ⟨(encL l).toArray⟩ := by
  have h1 := runesB_go l ByteArray.empty h
  unfold runesBytes
  generalize l.foldl (fun r n => r ++ Utf8.encode n) ByteArray.empty = x at h1 ⊢
  cases x with
  | mk d =>
    simp at h1
    rw [← h1]

set_option maxHeartbeats 4000000 in
set_option maxRecDepth 100000 in
theorem utf_Fold.calls (a0 : ByteArray) (r : ByteArray) (w : World) (hlaidU : LaidU w) (h : utf_Fold.f a0 = some r) :
    Calls Tryd.prog 30 #[.string a0] w fun e w' => e = .returned (.string r) ∧ Below w.heap.size w w' := by
  unfold utf_Fold.f at h
  split at h
  case isFalse => cases h
  rename_i hs
  have h := Option.some.inj h
  have HH := Aside0.mk h
  have HS := Aside0.mk hs
  have HV := Aside0.mk (fun r1 r2 r3 (e : runesR (runesOf a0) = (r1, r2, r3)) => utf_Runes.calls a0 r1 r2 r3 w hlaidU (by rw [utf_Runes.f, if_pos hs, e]))
  clear h hs hlaidU
  go_enter Tryd.func30, Tryd.ntmps30
  go_wp2_with fail
  rcases hq : runesOf a0 with ⟨l, o⟩
  cases o with
  | some p =>
    refine (HV.out [] p 4 (by rw [hq]; rfl)).mono ?_
    rintro e w1 ⟨v0, rfl, ho, hb⟩
    have HB := Aside0.mk hb
    clear ho hb HV
    go_wp2_with fail
    go_ret
    have h1 := HH.out
    rw [foldR, hq, if_neg (by simp)] at h1
    subst h1
    exact ⟨rfl, HB.out⟩
  | none =>
    refine (HV.out l 0 0 (by rw [hq]; rfl)).mono ?_
    rintro e w1 ⟨v0, rfl, ho, hb⟩
    have HO := Aside0.mk ho
    have HB := Aside0.mk hb
    clear ho hb HV
    obtain ⟨A, c, rfl⟩ := Kd.R_slice HO.out
    go_wp2_with fail
    have HR := Aside0.mk (show (⟨(encL (l.map sml)).toArray⟩ : ByteArray) = r by have := HH.out; rw [foldR, hq] at this; exact this)
    have HV := Aside0.mk (scan_enc a0 a0.size 0 (by omega) (Nat.zero_le _) (by show (runesOf a0).2 = none; rw [hq])).2
    rw [show scan a0 a0.size 0 = (l, none) from hq] at HV
    have HL := Aside0.mk (show l.length < 1000000 by have h1 := scan_len a0 a0.size 0; rw [show scan a0 a0.size 0 = (l, none) from hq] at h1; have := HS.out; simp only at h1; omega)
    clear hq HH h
    go_loopw [19] (fun v wr => ∃ k : Nat, v = .int .i64 (k : Int) ∧ k ≤ l.length ∧ Aside0 (Kd.R (Kd.int .i32) 21 wr w.heap.size (fun _ => True) (.slice A l.length c) ((l.take k).map sml ++ l.drop k)) ∧ Aside0 (Below w.heap.size w wr)) (fun v _ => ((l.length : Int) - RowKit.intOf v).toNat)
    case atStart => exact ⟨0, rfl, Nat.zero_le _, ⟨by simpa using HO.out⟩, HB⟩
    case round =>
      clear HO HB
      obtain ⟨k, rfl, hk, HO, HB⟩ := hrel
      by_cases hlt : k < l.length
      · have e1 : decide ((k : Int) < l.length) = true := decide_eq_true (by omega)
        have HLL := Aside0.mk (show ((l.take k).map sml ++ l.drop k).length = l.length by simp; omega)
        obtain ⟨g, cap, he, hg1, hg2, _⟩ := Kd.R_form HO.out (by rw [HLL.out]; omega)
        rw [HLL.out] at he
        cases he
        obtain ⟨hx0, hf0⟩ := Kd.R_celln 0 HO.out (k : Int) (by omega) (by omega)
        have HX := Aside0.mk (drop_rd l k hlt)
        have hrd : rdOf 0 ((l.take k).map sml ++ l.drop k) (k : Int) = rd l k := by
          rw [HX.out]
          simp [rdOf, List.getD, Nat.min_eq_left hk]
        rw [hrd, Int.toNat_natCast] at hx0
        rw [Int.toNat_natCast] at hf0
        have HS2 := Aside0.mk (show ((l.take k).map sml ++ l.drop k).set k (sml (rd l k)) = (l.take (k + 1)).map sml ++ l.drop (k + 1) by
          rw [take_rd l k hlt, HX.out]
          rw [List.set_append_right _ _ (by simp [Nat.min_eq_left hk])]
          simp [Nat.min_eq_left hk])
        have hvr := (vld_iff _).1 (HV.out (rd l k) (by simp [rd, List.getD, hlt]))
        go_wp2_with fail
        refine (small_calls (rd l k) wr (by omega) (by omega)).mono ?_
        rintro e w2 ⟨rfl, hd⟩
        have hb2 : Below wr.heap.size wr w2 := hd.below
        have HO2 := Aside0.mk (Kd.R_below HO.out hb2)
        have HB2 := Aside0.mk (below_step HB.out hb2)
        obtain ⟨hx2, hf2⟩ := Kd.R_celln 0 HO2.out (k : Int) (by omega) (by omega)
        have hput := Kd.R_putg HO2.out (k : Int) (sml (rd l k))
        rw [Int.toNat_natCast] at hx2 hf2 hput
        rw [HS2.out] at hput
        have HP := Aside0.mk hput.1
        have HBn := Aside0.mk (HB2.out.setCell (p := ⟨g, k, none⟩) hg1 (.int .i32 (sml (rd l k))))
        have hw64 : wrap64 ((k : Int) + 1) = k + 1 := by have := HL.out; unfold wrap64; omega
        clear hput hd hb2 hx0 hf0 HO HB hrd
        go_wp2_with fail
        go_roundw
        case rel => exact ⟨k + 1, by rw [hw64]; rfl, by omega, HP, HBn⟩
        case measure => rw [hw64]; simp [RowKit.intOf]; omega
      · obtain rfl : k = l.length := by omega
        have e1 : decide ((l.length : Int) < l.length) = false := decide_eq_false (by omega)
        have hO := HO.out
        rw [List.take_length, List.drop_length, List.append_nil] at hO
        have hcv : (convert 34 9 (.slice A l.length c)).run Tryd.prog wr = .ok (.string ⟨(encL (l.map sml)).toArray⟩) wr := by
          obtain ⟨hl, hc, hC⟩ := Kd.R_reads' hO
          rw [← runesB_eq (l.map sml) (fun r hr => by obtain ⟨x, hx, rfl⟩ := List.mem_map.1 hr; exact sml_vld x (HV.out x hx))]
          rcases A with _ | ad
          · rw [run_convert_runes_nil wr 34 9 21 _ _ Tryd.underlying34 Tryd.underlying21 Tryd.underlying9]
            have : l.map sml = [] := by
              rcases hq : l.map sml with _ | ⟨x, t⟩
              · rfl
              · obtain ⟨_, e, _⟩ := Kd.at_int hC 0 (by omega) (by rw [hq]; simp <;> omega)
                cases e
            rw [this]; rfl
          · rw [run_convert_runes wr 34 9 21 ad l.length c (l.map sml) (by simp) Tryd.underlying34 Tryd.underlying21 Tryd.underlying9 ?_]
            · rw [List.take_of_length_le (by simp)]
            · intro j hj
              obtain ⟨_, e, hx⟩ := Kd.at_int hC (j : Int) (by omega) (by omega)
              cases e
              rw [Int.toNat_natCast] at hx
              rw [hx]; rfl
        clear hO
        go_wp2_with fail
        go_ret
        have h1 := HR.out
        subst h1
        exact ⟨rfl, HB.out⟩
end Go.Proofs.YtcaojgdnhmgmlaaDoor.Q
end
section
/- Functions of the seat as plain Lean functions, and that the calls do what these say; conditions stand in each theorem. (Written by a program of this seat's prover, by the kit's printer; Lean checks it.) -/
namespace Go.Proofs.YtcaojgdnhmgmlaaDoor.Q
open Go.RowKit Go.Proofs.YtcaojgdnhmgmlaaDoorW.PrintWords Go.Proofs.YtcaojgdnhmgmlaaDoorW.PrintLast Go.Proofs.YtcaojgdnhmgmlaaDoorW.PrintMore
attribute [local go_sem] max2_int min2_int max_two min_two max_three min_three max_four min_four   -- for this text's walks alone
set_option linter.unusedVariables false
set_option linter.unusedSimpArgs false

/-! ### oubliettelaw02_alive: function 20 -/
def oubliettelaw02_alive.f  : Option (Bool) := (utf_Runes.f (⟨#[97, 195, 169]⟩ : ByteArray)).bind fun bt159 => ((utf_Fold.f (⟨#[65, 195, 132, 55]⟩ : ByteArray)).bind fun t164 => (if t164.toList = ([97, 195, 164, 55] : List UInt8) then (if bt159.2.2 = 0 then (if (bt159.1.length : Int) = 2 then (if 1 < (bt159.1.length : Int) then (some ((rd bt159.1 1) == 233)) else (none)) else (some false)) else (some false)) else (some false)))
set_option maxHeartbeats 8000000 in
set_option maxRecDepth 100000 in
theorem oubliettelaw02_alive.calls  (r : Bool) (w : World) (hlaidU : LaidU w) (h : oubliettelaw02_alive.f  = some r) :
    Calls Tryd.prog 20 #[] w fun e w' => e = .returned (.bool r) ∧ Below w.heap.size w w' := by
  have HLU := Aside0.mk hlaidU
  clear hlaidU
  have HB := Aside0.mk (Below.refl w.heap.size w)
  have H : ((utf_Runes.f (⟨#[97, 195, 169]⟩ : ByteArray)).bind fun bt159 => ((utf_Fold.f (⟨#[65, 195, 132, 55]⟩ : ByteArray)).bind fun t164 => (if t164.toList = ([97, 195, 164, 55] : List UInt8) then (if bt159.2.2 = 0 then (if (bt159.1.length : Int) = 2 then (if 1 < (bt159.1.length : Int) then (some ((rd bt159.1 1) == 233)) else (none)) else (some false)) else (some false)) else (some false)))) = some r := h
  clear h
  replace H := Option.bind_eq_some_iff.mp H
  obtain ⟨⟨t159, t160, t161⟩, A10, H⟩ := H
  replace H : ((utf_Fold.f (⟨#[65, 195, 132, 55]⟩ : ByteArray)).bind fun t164 => (if t164.toList = ([97, 195, 164, 55] : List UInt8) then (if t161 = 0 then (if (t159.length : Int) = 2 then (if 1 < (t159.length : Int) then (some ((rd t159 1) == 233)) else (none)) else (some false)) else (some false)) else (some false))) = some r := H
  have A1 := Aside0.mk A10
  clear A10
  replace H := Option.bind_eq_some_iff.mp H
  obtain ⟨t164, A20, H⟩ := H
  replace H : (if t164.toList = ([97, 195, 164, 55] : List UInt8) then (if t161 = 0 then (if (t159.length : Int) = 2 then (if 1 < (t159.length : Int) then (some ((rd t159 1) == 233)) else (none)) else (some false)) else (some false)) else (some false)) = some r := H
  have A2 := Aside0.mk A20
  clear A20
  by_cases c3 : t164.toList = ([97, 195, 164, 55] : List UInt8)
  · rw [if_pos c3] at H
    have c3b0 : (t164.toList == ([97, 195, 164, 55] : List UInt8)) = true := beq_iff_eq.mpr c3
    have c3b1 : (t164.toList != ([97, 195, 164, 55] : List UInt8)) = false := bne_eq_false_iff_eq.mpr c3
    clear c3
    by_cases c4 : t161 = 0
    · rw [if_pos c4] at H
      have c4b0 : (t161 == 0) = true := beq_iff_eq.mpr c4
      have c4b1 : (t161 != 0) = false := bne_eq_false_iff_eq.mpr c4
      clear c4
      by_cases c5 : (t159.length : Int) = 2
      · rw [if_pos c5] at H
        have c5b0 : ((t159.length : Int) == 2) = true := beq_iff_eq.mpr c5
        have c5b1 : ((t159.length : Int) != 2) = false := bne_eq_false_iff_eq.mpr c5
        clear c5
        by_cases c6 : 1 < (t159.length : Int)
        · rw [if_pos c6] at H
          have c6b0 : decide (1 < (t159.length : Int)) = true := decide_eq_true c6
          have c6b1 : decide (1 < t159.length) = true := decide_eq_true (by omega)
          clear c6
          obtain rfl := Option.some.inj H
          go_enter Tryd.func20, Tryd.ntmps20
          go_wp2_with (first | ((with_reducible refine gate_callee (f := 21) rfl ?_); refine goesL_ (some 5) rfl rfl Tryd.func21 (by kernel_rfl) rfl #[.string (⟨#[97, 195, 169]⟩ : ByteArray)] rfl (by (try simp only [List.map_toArray, List.map_cons, List.map_nil]); first | done | rfl | (simp only [List.length_drop, List.length_take]; rfl)) ?_; (with_reducible refine (utf_Runes.calls (hlaidU := ?lwU) (⟨#[97, 195, 169]⟩ : ByteArray) t159 t160 t161 _ A1.out).mono ?_); (case lwU => exact LaidU.below HLU.out (by repeat (first | (with_reducible first | exact HB.out | exact Below.refl _ _ | apply below_alloc | apply pw_below_drewN | apply below_drew1) | exact HB.out))); rintro e w7 ⟨v162, rfl, ho0, hb⟩; refine ⟨_, rfl, ?_⟩; have n0_ := Aside0.mk (Kd.R_lower ho0 (below_size (by repeat (first | (with_reducible first | exact HB.out | apply below_alloc | apply pw_below_drewN | apply below_drew1) | exact HB.out)))); have n1_ := Aside0.mk (below_step (by repeat (first | (with_reducible first | exact HB.out | apply below_alloc | apply pw_below_drewN | apply below_drew1) | exact HB.out)) hb); clear HB; have HO163 := n0_; have HB := n1_; clear n0_ n1_; (try clear hb); (try clear hb2); (try clear hk); (try clear hi); (try clear ho0)) | ((with_reducible refine gate_callee (f := 30) rfl ?_); refine goesL_ (some 9) rfl rfl Tryd.func30 (by kernel_rfl) rfl #[.string (⟨#[65, 195, 132, 55]⟩ : ByteArray)] rfl (by (try simp only [List.map_toArray, List.map_cons, List.map_nil]); first | done | rfl | (simp only [List.length_drop, List.length_take]; rfl)) ?_; (with_reducible refine (utf_Fold.calls (hlaidU := ?lwU) (⟨#[65, 195, 132, 55]⟩ : ByteArray) t164 _ A2.out).mono ?_); (case lwU => exact LaidU.below HLU.out (by repeat (first | (with_reducible first | exact HB.out | exact Below.refl _ _ | apply below_alloc | apply pw_below_drewN | apply below_drew1) | exact HB.out))); rintro e w8 ⟨rfl, hb⟩; refine ⟨_, rfl, ?_⟩; have n0_ := Aside0.mk (Kd.R_below (by (with_reducible repeat (first | apply Kd.R_alloc | apply Kd.R_drewN | apply Kd.R_drew)); exact HO163.out) hb); have n1_ := Aside0.mk (below_step (by repeat (first | (with_reducible first | exact HB.out | apply below_alloc | apply pw_below_drewN | apply below_drew1) | exact HB.out)) hb); clear HO163; clear HB; have HO163 := n0_; have HB := n1_; clear n0_ n1_; (try clear hb); (try clear hb2); (try clear hk); (try clear hi); obtain ⟨Ao9, co9, eo9⟩ := Kd.R_slice HO163.out; subst eo9; have p165 : 0 ≤ (1 : Int) := (by omega); have q165 : 1 < (t159.length : Int) := of_decide_eq_true (by first | (with_reducible assumption) | assumption); obtain ⟨ad165, e165, hx165_0⟩ := Kd.at_int (Kd.R_reads' HO163.out).2.2 1 p165 q165; cases e165; (try simp only [show (1 : Int).toNat = 1 from rfl, Nat.reduceMul, Nat.reduceEqDiff, Go.Addr.add, ↓reduceIte] at hx165_0); have qi165 : (1 < t159.length) = True := eq_true (by omega); (try rw [show ((1 : Int)).toNat = 1 from rfl] at hx165_0); replace p165 := eq_true p165; replace q165 := eq_true q165))
          go_ret
          exact ⟨by first | rfl | (simp [errW_none, errW_some] <;> rfl) | (simp [*, errW_none, errW_some] <;> rfl), by repeat (first | (with_reducible first | exact HB.out | apply below_alloc | apply pw_below_drewN | apply below_drew1) | exact HB.out)⟩
        · rw [if_neg c6] at H
          exact absurd H (by simp)
      · rw [if_neg c5] at H
        have c5b0 : ((t159.length : Int) == 2) = false := beq_eq_false_iff_ne.mpr c5
        have c5b1 : ((t159.length : Int) != 2) = true := bne_iff_ne.mpr c5
        obtain rfl := Option.some.inj H
        go_enter Tryd.func20, Tryd.ntmps20
        go_wp2_with (first | ((with_reducible refine gate_callee (f := 21) rfl ?_); refine goesL_ (some 5) rfl rfl Tryd.func21 (by kernel_rfl) rfl #[.string (⟨#[97, 195, 169]⟩ : ByteArray)] rfl (by (try simp only [List.map_toArray, List.map_cons, List.map_nil]); first | done | rfl | (simp only [List.length_drop, List.length_take]; rfl)) ?_; (with_reducible refine (utf_Runes.calls (hlaidU := ?lwU) (⟨#[97, 195, 169]⟩ : ByteArray) t159 t160 t161 _ A1.out).mono ?_); (case lwU => exact LaidU.below HLU.out (by repeat (first | (with_reducible first | exact HB.out | exact Below.refl _ _ | apply below_alloc | apply pw_below_drewN | apply below_drew1) | exact HB.out))); rintro e w10 ⟨v162, rfl, ho0, hb⟩; refine ⟨_, rfl, ?_⟩; have n0_ := Aside0.mk (Kd.R_lower ho0 (below_size (by repeat (first | (with_reducible first | exact HB.out | apply below_alloc | apply pw_below_drewN | apply below_drew1) | exact HB.out)))); have n1_ := Aside0.mk (below_step (by repeat (first | (with_reducible first | exact HB.out | apply below_alloc | apply pw_below_drewN | apply below_drew1) | exact HB.out)) hb); clear HB; have HO163 := n0_; have HB := n1_; clear n0_ n1_; (try clear hb); (try clear hb2); (try clear hk); (try clear hi); (try clear ho0)) | ((with_reducible refine gate_callee (f := 30) rfl ?_); refine goesL_ (some 9) rfl rfl Tryd.func30 (by kernel_rfl) rfl #[.string (⟨#[65, 195, 132, 55]⟩ : ByteArray)] rfl (by (try simp only [List.map_toArray, List.map_cons, List.map_nil]); first | done | rfl | (simp only [List.length_drop, List.length_take]; rfl)) ?_; (with_reducible refine (utf_Fold.calls (hlaidU := ?lwU) (⟨#[65, 195, 132, 55]⟩ : ByteArray) t164 _ A2.out).mono ?_); (case lwU => exact LaidU.below HLU.out (by repeat (first | (with_reducible first | exact HB.out | exact Below.refl _ _ | apply below_alloc | apply pw_below_drewN | apply below_drew1) | exact HB.out))); rintro e w11 ⟨rfl, hb⟩; refine ⟨_, rfl, ?_⟩; have n0_ := Aside0.mk (Kd.R_below (by (with_reducible repeat (first | apply Kd.R_alloc | apply Kd.R_drewN | apply Kd.R_drew)); exact HO163.out) hb); have n1_ := Aside0.mk (below_step (by repeat (first | (with_reducible first | exact HB.out | apply below_alloc | apply pw_below_drewN | apply below_drew1) | exact HB.out)) hb); clear HO163; clear HB; have HO163 := n0_; have HB := n1_; clear n0_ n1_; (try clear hb); (try clear hb2); (try clear hk); (try clear hi); obtain ⟨Ao12, co12, eo12⟩ := Kd.R_slice HO163.out; subst eo12))
        go_ret
        exact ⟨by first | rfl | (simp [errW_none, errW_some] <;> rfl) | (simp [*, errW_none, errW_some] <;> rfl), by repeat (first | (with_reducible first | exact HB.out | apply below_alloc | apply pw_below_drewN | apply below_drew1) | exact HB.out)⟩
    · rw [if_neg c4] at H
      have c4b0 : (t161 == 0) = false := beq_eq_false_iff_ne.mpr c4
      have c4b1 : (t161 != 0) = true := bne_iff_ne.mpr c4
      obtain rfl := Option.some.inj H
      go_enter Tryd.func20, Tryd.ntmps20
      go_wp2_with (first | ((with_reducible refine gate_callee (f := 21) rfl ?_); refine goesL_ (some 5) rfl rfl Tryd.func21 (by kernel_rfl) rfl #[.string (⟨#[97, 195, 169]⟩ : ByteArray)] rfl (by (try simp only [List.map_toArray, List.map_cons, List.map_nil]); first | done | rfl | (simp only [List.length_drop, List.length_take]; rfl)) ?_; (with_reducible refine (utf_Runes.calls (hlaidU := ?lwU) (⟨#[97, 195, 169]⟩ : ByteArray) t159 t160 t161 _ A1.out).mono ?_); (case lwU => exact LaidU.below HLU.out (by repeat (first | (with_reducible first | exact HB.out | exact Below.refl _ _ | apply below_alloc | apply pw_below_drewN | apply below_drew1) | exact HB.out))); rintro e w13 ⟨v162, rfl, ho0, hb⟩; refine ⟨_, rfl, ?_⟩; have n0_ := Aside0.mk (Kd.R_lower ho0 (below_size (by repeat (first | (with_reducible first | exact HB.out | apply below_alloc | apply pw_below_drewN | apply below_drew1) | exact HB.out)))); have n1_ := Aside0.mk (below_step (by repeat (first | (with_reducible first | exact HB.out | apply below_alloc | apply pw_below_drewN | apply below_drew1) | exact HB.out)) hb); clear HB; have HO163 := n0_; have HB := n1_; clear n0_ n1_; (try clear hb); (try clear hb2); (try clear hk); (try clear hi); (try clear ho0)) | ((with_reducible refine gate_callee (f := 30) rfl ?_); refine goesL_ (some 9) rfl rfl Tryd.func30 (by kernel_rfl) rfl #[.string (⟨#[65, 195, 132, 55]⟩ : ByteArray)] rfl (by (try simp only [List.map_toArray, List.map_cons, List.map_nil]); first | done | rfl | (simp only [List.length_drop, List.length_take]; rfl)) ?_; (with_reducible refine (utf_Fold.calls (hlaidU := ?lwU) (⟨#[65, 195, 132, 55]⟩ : ByteArray) t164 _ A2.out).mono ?_); (case lwU => exact LaidU.below HLU.out (by repeat (first | (with_reducible first | exact HB.out | exact Below.refl _ _ | apply below_alloc | apply pw_below_drewN | apply below_drew1) | exact HB.out))); rintro e w14 ⟨rfl, hb⟩; refine ⟨_, rfl, ?_⟩; have n0_ := Aside0.mk (Kd.R_below (by (with_reducible repeat (first | apply Kd.R_alloc | apply Kd.R_drewN | apply Kd.R_drew)); exact HO163.out) hb); have n1_ := Aside0.mk (below_step (by repeat (first | (with_reducible first | exact HB.out | apply below_alloc | apply pw_below_drewN | apply below_drew1) | exact HB.out)) hb); clear HO163; clear HB; have HO163 := n0_; have HB := n1_; clear n0_ n1_; (try clear hb); (try clear hb2); (try clear hk); (try clear hi)))
      go_ret
      exact ⟨by first | rfl | (simp [errW_none, errW_some] <;> rfl) | (simp [*, errW_none, errW_some] <;> rfl), by repeat (first | (with_reducible first | exact HB.out | apply below_alloc | apply pw_below_drewN | apply below_drew1) | exact HB.out)⟩
  · rw [if_neg c3] at H
    have c3b0 : (t164.toList == ([97, 195, 164, 55] : List UInt8)) = false := beq_eq_false_iff_ne.mpr c3
    have c3b1 : (t164.toList != ([97, 195, 164, 55] : List UInt8)) = true := bne_iff_ne.mpr c3
    obtain rfl := Option.some.inj H
    go_enter Tryd.func20, Tryd.ntmps20
    go_wp2_with (first | ((with_reducible refine gate_callee (f := 21) rfl ?_); refine goesL_ (some 5) rfl rfl Tryd.func21 (by kernel_rfl) rfl #[.string (⟨#[97, 195, 169]⟩ : ByteArray)] rfl (by (try simp only [List.map_toArray, List.map_cons, List.map_nil]); first | done | rfl | (simp only [List.length_drop, List.length_take]; rfl)) ?_; (with_reducible refine (utf_Runes.calls (hlaidU := ?lwU) (⟨#[97, 195, 169]⟩ : ByteArray) t159 t160 t161 _ A1.out).mono ?_); (case lwU => exact LaidU.below HLU.out (by repeat (first | (with_reducible first | exact HB.out | exact Below.refl _ _ | apply below_alloc | apply pw_below_drewN | apply below_drew1) | exact HB.out))); rintro e w15 ⟨v162, rfl, ho0, hb⟩; refine ⟨_, rfl, ?_⟩; have n0_ := Aside0.mk (Kd.R_lower ho0 (below_size (by repeat (first | (with_reducible first | exact HB.out | apply below_alloc | apply pw_below_drewN | apply below_drew1) | exact HB.out)))); have n1_ := Aside0.mk (below_step (by repeat (first | (with_reducible first | exact HB.out | apply below_alloc | apply pw_below_drewN | apply below_drew1) | exact HB.out)) hb); clear HB; have HO163 := n0_; have HB := n1_; clear n0_ n1_; (try clear hb); (try clear hb2); (try clear hk); (try clear hi); (try clear ho0)) | ((with_reducible refine gate_callee (f := 30) rfl ?_); refine goesL_ (some 9) rfl rfl Tryd.func30 (by kernel_rfl) rfl #[.string (⟨#[65, 195, 132, 55]⟩ : ByteArray)] rfl (by (try simp only [List.map_toArray, List.map_cons, List.map_nil]); first | done | rfl | (simp only [List.length_drop, List.length_take]; rfl)) ?_; (with_reducible refine (utf_Fold.calls (hlaidU := ?lwU) (⟨#[65, 195, 132, 55]⟩ : ByteArray) t164 _ A2.out).mono ?_); (case lwU => exact LaidU.below HLU.out (by repeat (first | (with_reducible first | exact HB.out | exact Below.refl _ _ | apply below_alloc | apply pw_below_drewN | apply below_drew1) | exact HB.out))); rintro e w16 ⟨rfl, hb⟩; refine ⟨_, rfl, ?_⟩; have n0_ := Aside0.mk (Kd.R_below (by (with_reducible repeat (first | apply Kd.R_alloc | apply Kd.R_drewN | apply Kd.R_drew)); exact HO163.out) hb); have n1_ := Aside0.mk (below_step (by repeat (first | (with_reducible first | exact HB.out | apply below_alloc | apply pw_below_drewN | apply below_drew1) | exact HB.out)) hb); clear HO163; clear HB; have HO163 := n0_; have HB := n1_; clear n0_ n1_; (try clear hb); (try clear hb2); (try clear hk); (try clear hi)))
    go_ret
    exact ⟨by first | rfl | (simp [errW_none, errW_some] <;> rfl) | (simp [*, errW_none, errW_some] <;> rfl), by repeat (first | (with_reducible first | exact HB.out | apply below_alloc | apply pw_below_drewN | apply below_drew1) | exact HB.out)⟩

end Go.Proofs.YtcaojgdnhmgmlaaDoor.Q
end
