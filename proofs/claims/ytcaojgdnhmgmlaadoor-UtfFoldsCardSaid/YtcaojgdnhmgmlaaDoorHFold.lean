/- utf.Fold, by hand: a text with its letters made small. -/
import Derived.Test.YtcaojgdnhmgmlaaDoorHRunes
import Derived.Test.YtcaojgdnhmgmlaaDoorUtfFacts
import Derived.Test.YtcaojgdnhmgmlaaDoorUpper
import Derived.Test.YtcaojgdnhmgmlaaDoorHText
import Derived.Laws.Cover4
namespace Go.Proofs.YtcaojgdnhmgmlaaDoor.Q
open Go.RowKit Go.Sort Go.Lib Go.Proofs.YtcaojgdnhmgmlaaDoorW.PrintWords Go.Proofs.YtcaojgdnhmgmlaaDoorW.PrintLast Go.Proofs.YtcaojgdnhmgmlaaDoorW.PrintMore
set_option linter.unusedVariables false

def foldR (s : ByteArray) : ByteArray := if (runesOf s).2.isNone = true then ⟨(encL ((runesOf s).1.map sml)).toArray⟩ else ⟨#[]⟩
def utf_Fold.f (a0 : ByteArray) : Option (ByteArray) := if a0.size < 1000000 then some (foldR a0) else none

theorem sml_vld (r : Int) (h : validRune r = true) : validRune (sml r) = true := by
  rw [vld_iff] at h ⊢
  unfold sml
  split
  · rename_i hu; simp [upr] at hu; omega
  · exact h
theorem encode_eq (r : Int) (h : validRune r = true) : (Utf8.encode r).data.toList = Lib.encodeRune r := by
  rw [vld_iff] at h
  obtain ⟨c, rfl⟩ := Int.eq_ofNat_of_zero_le (show 0 ≤ r by omega)
  have hv : Utf8.valid (c : Int) = true := by simp [Utf8.valid]; omega
  have hu : ∀ x : Nat, ((x : Int).toNat.toUInt8) = UInt8.ofNat x := fun x => by rw [Int.toNat_natCast]
  unfold Utf8.encode Lib.encodeRune Lib.encodeRuneZ
  simp only [hv, if_true, Int.toNat_natCast]
  repeat' split
  all_goals first | (exfalso; omega) | rfl
theorem runesB_go : ∀ (l : List Int) (b : ByteArray), (∀ r ∈ l, validRune r = true) → (l.foldl (fun r n => r ++ Utf8.encode n) b).data.toList = b.data.toList ++ encL l
  | [], b, _ => by simp [encL]
  | r :: t, b, h => by
    rw [List.foldl_cons, runesB_go t _ (fun x hx => h x (List.mem_cons_of_mem _ hx))]
    rw [ByteArray.data_append, Array.toList_append, encode_eq r (h r (List.mem_cons_self ..))]
    simp [encL]
theorem runesB_eq (l : List Int) (h : ∀ r ∈ l, validRune r = true) : runesBytes l = ⟨(encL l).toArray⟩ := by
  have h1 := runesB_go l ByteArray.empty h
  unfold runesBytes
  generalize l.foldl (fun r n => r ++ Utf8.encode n) ByteArray.empty = x at h1 ⊢
  cases x with
  | mk d =>
    simp at h1
    rw [← h1]

set_option maxHeartbeats 4000000 in
set_option maxRecDepth 100000 in
theorem utf_Fold.calls (a0 : ByteArray) (r : ByteArray) (w : World) (hlaidU : LaidU w) (h : utf_Fold.f a0 = some r) :
    Calls Tryd.prog 30 #[.string a0] w fun e w' => e = .returned (.string r) ∧ Below w.heap.size w w' := by
  unfold utf_Fold.f at h
  split at h
  case isFalse => cases h
  rename_i hs
  have h := Option.some.inj h
  have HH := Aside0.mk h
  have HS := Aside0.mk hs
  have HV := Aside0.mk (fun r1 r2 r3 (e : runesR (runesOf a0) = (r1, r2, r3)) => utf_Runes.calls a0 r1 r2 r3 w hlaidU (by rw [utf_Runes.f, if_pos hs, e]))
  clear h hs hlaidU
  go_enter Tryd.func30, Tryd.ntmps30
  go_wp2_with fail
  rcases hq : runesOf a0 with ⟨l, o⟩
  cases o with
  | some p =>
    refine (HV.out [] p 4 (by rw [hq]; rfl)).mono ?_
    rintro e w1 ⟨v0, rfl, ho, hb⟩
    have HB := Aside0.mk hb
    clear ho hb HV
    go_wp2_with fail
    go_ret
    have h1 := HH.out
    rw [foldR, hq, if_neg (by simp)] at h1
    subst h1
    exact ⟨rfl, HB.out⟩
  | none =>
    refine (HV.out l 0 0 (by rw [hq]; rfl)).mono ?_
    rintro e w1 ⟨v0, rfl, ho, hb⟩
    have HO := Aside0.mk ho
    have HB := Aside0.mk hb
    clear ho hb HV
    obtain ⟨A, c, rfl⟩ := Kd.R_slice HO.out
    go_wp2_with fail
    have HR := Aside0.mk (show (⟨(encL (l.map sml)).toArray⟩ : ByteArray) = r by have := HH.out; rw [foldR, hq] at this; exact this)
    have HV := Aside0.mk (scan_enc a0 a0.size 0 (by omega) (Nat.zero_le _) (by show (runesOf a0).2 = none; rw [hq])).2
    rw [show scan a0 a0.size 0 = (l, none) from hq] at HV
    have HL := Aside0.mk (show l.length < 1000000 by have h1 := scan_len a0 a0.size 0; rw [show scan a0 a0.size 0 = (l, none) from hq] at h1; have := HS.out; simp only at h1; omega)
    clear hq HH h
    go_loopw [19] (fun v wr => ∃ k : Nat, v = .int .i64 (k : Int) ∧ k ≤ l.length ∧ Aside0 (Kd.R (Kd.int .i32) 21 wr w.heap.size (fun _ => True) (.slice A l.length c) ((l.take k).map sml ++ l.drop k)) ∧ Aside0 (Below w.heap.size w wr)) (fun v _ => ((l.length : Int) - RowKit.intOf v).toNat)
    case atStart => exact ⟨0, rfl, Nat.zero_le _, ⟨by simpa using HO.out⟩, HB⟩
    case round =>
      clear HO HB
      obtain ⟨k, rfl, hk, HO, HB⟩ := hrel
      by_cases hlt : k < l.length
      · have e1 : decide ((k : Int) < l.length) = true := decide_eq_true (by omega)
        have HLL := Aside0.mk (show ((l.take k).map sml ++ l.drop k).length = l.length by simp; omega)
        obtain ⟨g, cap, he, hg1, hg2, _⟩ := Kd.R_form HO.out (by rw [HLL.out]; omega)
        rw [HLL.out] at he
        cases he
        obtain ⟨hx0, hf0⟩ := Kd.R_celln 0 HO.out (k : Int) (by omega) (by omega)
        have HX := Aside0.mk (drop_rd l k hlt)
        have hrd : rdOf 0 ((l.take k).map sml ++ l.drop k) (k : Int) = rd l k := by
          rw [HX.out]
          simp [rdOf, List.getD, Nat.min_eq_left hk]
        rw [hrd, Int.toNat_natCast] at hx0
        rw [Int.toNat_natCast] at hf0
        have HS2 := Aside0.mk (show ((l.take k).map sml ++ l.drop k).set k (sml (rd l k)) = (l.take (k + 1)).map sml ++ l.drop (k + 1) by
          rw [take_rd l k hlt, HX.out]
          rw [List.set_append_right _ _ (by simp [Nat.min_eq_left hk])]
          simp [Nat.min_eq_left hk])
        have hvr := (vld_iff _).1 (HV.out (rd l k) (by simp [rd, List.getD, hlt]))
        go_wp2_with fail
        refine (small_calls (rd l k) wr (by omega) (by omega)).mono ?_
        rintro e w2 ⟨rfl, hd⟩
        have hb2 : Below wr.heap.size wr w2 := hd.below
        have HO2 := Aside0.mk (Kd.R_below HO.out hb2)
        have HB2 := Aside0.mk (below_step HB.out hb2)
        obtain ⟨hx2, hf2⟩ := Kd.R_celln 0 HO2.out (k : Int) (by omega) (by omega)
        have hput := Kd.R_putg HO2.out (k : Int) (sml (rd l k))
        rw [Int.toNat_natCast] at hx2 hf2 hput
        rw [HS2.out] at hput
        have HP := Aside0.mk hput.1
        have HBn := Aside0.mk (HB2.out.setCell (p := ⟨g, k, none⟩) hg1 (.int .i32 (sml (rd l k))))
        have hw64 : wrap64 ((k : Int) + 1) = k + 1 := by have := HL.out; unfold wrap64; omega
        clear hput hd hb2 hx0 hf0 HO HB hrd
        go_wp2_with fail
        go_roundw
        case rel => exact ⟨k + 1, by rw [hw64]; rfl, by omega, HP, HBn⟩
        case measure => rw [hw64]; simp [RowKit.intOf]; omega
      · obtain rfl : k = l.length := by omega
        have e1 : decide ((l.length : Int) < l.length) = false := decide_eq_false (by omega)
        have hO := HO.out
        rw [List.take_length, List.drop_length, List.append_nil] at hO
        have hcv : (convert 34 9 (.slice A l.length c)).run Tryd.prog wr = .ok (.string ⟨(encL (l.map sml)).toArray⟩) wr := by
          obtain ⟨hl, hc, hC⟩ := Kd.R_reads' hO
          rw [← runesB_eq (l.map sml) (fun r hr => by obtain ⟨x, hx, rfl⟩ := List.mem_map.1 hr; exact sml_vld x (HV.out x hx))]
          rcases A with _ | ad
          · rw [run_convert_runes_nil wr 34 9 21 _ _ Tryd.underlying34 Tryd.underlying21 Tryd.underlying9]
            have : l.map sml = [] := by
              rcases hq : l.map sml with _ | ⟨x, t⟩
              · rfl
              · obtain ⟨_, e, _⟩ := Kd.at_int hC 0 (by omega) (by rw [hq]; simp <;> omega)
                cases e
            rw [this]; rfl
          · rw [run_convert_runes wr 34 9 21 ad l.length c (l.map sml) (by simp) Tryd.underlying34 Tryd.underlying21 Tryd.underlying9 ?_]
            · rw [List.take_of_length_le (by simp)]
            · intro j hj
              obtain ⟨_, e, hx⟩ := Kd.at_int hC (j : Int) (by omega) (by omega)
              cases e
              rw [Int.toNat_natCast] at hx
              rw [hx]; rfl
        clear hO
        go_wp2_with fail
        go_ret
        have h1 := HR.out
        subst h1
        exact ⟨rfl, HB.out⟩
end Go.Proofs.YtcaojgdnhmgmlaaDoor.Q
