/- num.Xor, by hand: the bytes put over others, as far as the shorter goes. -/
import Derived.Test.YtcaojgdnhmgmlaaDoorQx0
namespace Go.Proofs.YtcaojgdnhmgmlaaDoor.Q
open Go.RowKit Go.Proofs.YtcaojgdnhmgmlaaDoorW.PrintWords Go.Proofs.YtcaojgdnhmgmlaaDoorW.PrintLast Go.Proofs.YtcaojgdnhmgmlaaDoorW.PrintMore
set_option linter.unusedVariables false

def xorAt (a b : List Int) (k : Nat) : Int := Go.bits .xor .u8 (rd a k) (rd b k)
def xorL (a b : List Int) : List Int := (List.range (min a.length b.length)).map (xorAt a b)
def xorTo (a b : List Int) (n k : Nat) : List Int := (List.range k).map (xorAt a b) ++ List.replicate (n - k) 0
theorem xorTo_len (a b : List Int) (n k : Nat) (h : k ≤ n) : (xorTo a b n k).length = n := by simp [xorTo]; omega
theorem xorTo_zero (a b : List Int) (n : Nat) : xorTo a b n 0 = List.replicate n 0 := by simp [xorTo]
theorem xorTo_set (a b : List Int) (n k : Nat) (h : k < n) : (xorTo a b n k).set k (xorAt a b k) = xorTo a b n (k + 1) := by
  unfold xorTo
  rw [List.set_append_right _ _ (by simp)]
  simp only [List.length_map, List.length_range, Nat.sub_self]
  obtain ⟨d, hd⟩ : ∃ d, n - k = d + 1 := ⟨n - k - 1, by omega⟩
  have hd2 : n - (k + 1) = d := by omega
  rw [hd, hd2, List.replicate_succ, List.set_cons_zero, List.range_succ, List.map_append]
  simp
theorem xorTo_all (a b : List Int) (n : Nat) (h : n = min a.length b.length) : xorTo a b n n = xorL a b := by subst h; simp [xorTo, xorL]

def num_Xor.f (l0 : List Int) (l1 : List Int) : Option (List Int) := if l0.length ≤ 281474976710656 then some (xorL l0 l1) else none

set_option maxHeartbeats 2000000 in
theorem xor_long (A0 : Option Addr) (c0 : Nat) (l0 : List Int) (A1 : Option Addr) (c1 : Nat) (l1 : List Int) (w : World) (hr0 : Kd.C (Kd.int .u8) w A0 l0.length l0) (hr1 : Kd.C (Kd.int .u8) w A1 l1.length l1) (hm : l1.length < l0.length) (hbig : l0.length ≤ 281474976710656) :
    Calls Tryd.prog 43 #[.slice A0 l0.length c0, .slice A1 l1.length c1] w fun e w' => ∃ v0_ : Value, e = .returned (v0_) ∧ Kd.R (Kd.int .u8) 5 w' w.heap.size (fun _ => True) v0_ (xorTo l0 l1 l1.length l1.length) ∧ Below w.heap.size w w' := by
  have HR0 := Aside0.mk hr0
  have HR1 := Aside0.mk hr1
  clear hr0 hr1
  go_enter Tryd.func43, Tryd.ntmps43
  go_wp2_with (first
    | ((with_reducible refine gate_dst (N := 12) rfl ?_); refine Kd.R_make (Kd.int .u8) _ 5 rfl (N := 12) rfl 52 _ _ rfl (l1.length : Int) rfl rfl Tryd.underlying52 (.int .u8 0) 1 info5 rfl (by decide) (by omega) 0 (ok := fun _ => True) (okp := fun _ => True) rfl (fun _ hk => hk) trivial (by omega) (by simp; omega) (Below.refl _ _) (Nat.le_refl _) ?_; intro v1 w1 ho hb hg hnew; rw [Int.toNat_natCast, ← xorTo_zero l0 l1] at ho; clear hg hnew; obtain ⟨A5, c5, e5⟩ := Kd.R_slice ho; rw [xorTo_len _ _ _ _ (Nat.zero_le _)] at e5; cases e5; have HO := Aside0.mk ho; have HB := Aside0.mk hb; clear ho hb))
  go_loopw [15] (fun i wr => ∃ k : Nat, k ≤ l1.length ∧ i = .int .i64 k ∧ Aside0 (Kd.R (Kd.int .u8) 5 wr w.heap.size (fun _ => True) (.slice A5 l1.length c5) (xorTo l0 l1 l1.length k)) ∧ Aside0 (Below w.heap.size w wr)) (fun i _ => l1.length - (intOf i).toNat)
  case atStart => exact ⟨0, by omega, rfl, HO, HB⟩
  case round =>
    clear HO HB
    obtain ⟨k, hk, rfl, HO, HB⟩ := hrel
    by_cases hlt : k < l1.length
    · have hlen := xorTo_len l0 l1 _ _ hk
      obtain ⟨g, co, eo, gb, gl, cl, hg⟩ := Kd.R_form HO.out (by rw [hlen]; omega)
      rw [hlen] at eo
      obtain ⟨rfl, _, rfl⟩ : A5 = some ⟨g, 0, none⟩ ∧ True ∧ c5 = co := by cases eo; exact ⟨rfl, trivial, rfl⟩
      clear eo hg cl
      obtain ⟨hx0, hf0⟩ := Kd.R_celln 0 HO.out (k : Int) (by omega) (by omega)
      have hput := Kd.R_putg HO.out (k : Int) (xorAt l0 l1 k)
      rw [Int.toNat_natCast] at hx0 hf0 hput
      rw [xorTo_set l0 l1 _ k hlt] at hput
      obtain ⟨ad0, e0, hc0⟩ := Kd.at_int (Kd.C_below HR0.out HB.out) (k : Int) (by omega) (by omega)
      cases e0
      obtain ⟨ad1, e1, hc1⟩ := Kd.at_int (Kd.C_below HR1.out HB.out) (k : Int) (by omega) (by omega)
      cases e1
      rw [Int.toNat_natCast] at hc0 hc1
      have HP := Aside0.mk hput.1
      have HBn := Aside0.mk (HB.out.setCell (p := ⟨g, k, none⟩) gb (.int .u8 (xorAt l0 l1 k)))
      clear hput HB HO hlen
      go_wp2_with fail
      go_region
      go_wp2_with fail
      go_roundw
      case rel => exact ⟨k + 1, by omega, by go_num, ⟨Kd.R_drew HP.out⟩, ⟨HBn.out.drew⟩⟩
      case measure => simp [intOf]; omega
    · have hk8 : k = l1.length := by omega
      subst hk8
      go_wp2_with fail
      go_ret
      exact ⟨_, rfl, HO.out, HB.out⟩

set_option maxHeartbeats 2000000 in
theorem xor_short (A0 : Option Addr) (c0 : Nat) (l0 : List Int) (A1 : Option Addr) (c1 : Nat) (l1 : List Int) (w : World) (hr0 : Kd.C (Kd.int .u8) w A0 l0.length l0) (hr1 : Kd.C (Kd.int .u8) w A1 l1.length l1) (hm : ¬ l1.length < l0.length) (hbig : l0.length ≤ 281474976710656) :
    Calls Tryd.prog 43 #[.slice A0 l0.length c0, .slice A1 l1.length c1] w fun e w' => ∃ v0_ : Value, e = .returned (v0_) ∧ Kd.R (Kd.int .u8) 5 w' w.heap.size (fun _ => True) v0_ (xorTo l0 l1 l0.length l0.length) ∧ Below w.heap.size w w' := by
  have HR0 := Aside0.mk hr0
  have HR1 := Aside0.mk hr1
  clear hr0 hr1
  go_enter Tryd.func43, Tryd.ntmps43
  go_wp2_with (first
    | ((with_reducible refine gate_dst (N := 12) rfl ?_); refine Kd.R_make (Kd.int .u8) _ 5 rfl (N := 12) rfl 52 _ _ rfl (l0.length : Int) rfl rfl Tryd.underlying52 (.int .u8 0) 1 info5 rfl (by decide) (by omega) 0 (ok := fun _ => True) (okp := fun _ => True) rfl (fun _ hk => hk) trivial (by omega) (by simp; omega) (Below.refl _ _) (Nat.le_refl _) ?_; intro v1 w1 ho hb hg hnew; rw [Int.toNat_natCast, ← xorTo_zero l0 l1] at ho; clear hg hnew; obtain ⟨A5, c5, e5⟩ := Kd.R_slice ho; rw [xorTo_len _ _ _ _ (Nat.zero_le _)] at e5; cases e5; have HO := Aside0.mk ho; have HB := Aside0.mk hb; clear ho hb))
  go_loopw [15] (fun i wr => ∃ k : Nat, k ≤ l0.length ∧ i = .int .i64 k ∧ Aside0 (Kd.R (Kd.int .u8) 5 wr w.heap.size (fun _ => True) (.slice A5 l0.length c5) (xorTo l0 l1 l0.length k)) ∧ Aside0 (Below w.heap.size w wr)) (fun i _ => l0.length - (intOf i).toNat)
  case atStart => exact ⟨0, by omega, rfl, HO, HB⟩
  case round =>
    clear HO HB
    obtain ⟨k, hk, rfl, HO, HB⟩ := hrel
    by_cases hlt : k < l0.length
    · have hlen := xorTo_len l0 l1 _ _ hk
      obtain ⟨g, co, eo, gb, gl, cl, hg⟩ := Kd.R_form HO.out (by rw [hlen]; omega)
      rw [hlen] at eo
      obtain ⟨rfl, _, rfl⟩ : A5 = some ⟨g, 0, none⟩ ∧ True ∧ c5 = co := by cases eo; exact ⟨rfl, trivial, rfl⟩
      clear eo hg cl
      obtain ⟨hx0, hf0⟩ := Kd.R_celln 0 HO.out (k : Int) (by omega) (by omega)
      have hput := Kd.R_putg HO.out (k : Int) (xorAt l0 l1 k)
      rw [Int.toNat_natCast] at hx0 hf0 hput
      rw [xorTo_set l0 l1 _ k hlt] at hput
      obtain ⟨ad0, e0, hc0⟩ := Kd.at_int (Kd.C_below HR0.out HB.out) (k : Int) (by omega) (by omega)
      cases e0
      obtain ⟨ad1, e1, hc1⟩ := Kd.at_int (Kd.C_below HR1.out HB.out) (k : Int) (by omega) (by omega)
      cases e1
      rw [Int.toNat_natCast] at hc0 hc1
      have HP := Aside0.mk hput.1
      have HBn := Aside0.mk (HB.out.setCell (p := ⟨g, k, none⟩) gb (.int .u8 (xorAt l0 l1 k)))
      clear hput HB HO hlen
      go_wp2_with fail
      go_region
      go_wp2_with fail
      go_roundw
      case rel => exact ⟨k + 1, by omega, by go_num, ⟨Kd.R_drew HP.out⟩, ⟨HBn.out.drew⟩⟩
      case measure => simp [intOf]; omega
    · have hk8 : k = l0.length := by omega
      subst hk8
      go_wp2_with fail
      go_ret
      exact ⟨_, rfl, HO.out, HB.out⟩

theorem num_Xor.calls (A0 : Option Addr) (c0 : Nat) (l0 : List Int) (A1 : Option Addr) (c1 : Nat) (l1 : List Int) (r : List Int) (w : World) (hr0 : Kd.C (Kd.int .u8) w A0 l0.length l0) (hc0 : l0.length ≤ c0) (hr1 : Kd.C (Kd.int .u8) w A1 l1.length l1) (hc1 : l1.length ≤ c1) (h : num_Xor.f l0 l1 = some r) :
    Calls Tryd.prog 43 #[.slice A0 l0.length c0, .slice A1 l1.length c1] w fun e w' => ∃ v0_ : Value, e = .returned (v0_) ∧ Kd.R (Kd.int .u8) 5 w' w.heap.size (fun _ => True) v0_ r ∧ Below w.heap.size w w' := by
  unfold num_Xor.f at h
  split at h
  case isFalse => cases h
  rename_i hb
  obtain rfl := Option.some.inj h
  by_cases hm : l1.length < l0.length
  · rw [← xorTo_all l0 l1 l1.length (by omega)]
    exact xor_long A0 c0 l0 A1 c1 l1 w hr0 hr1 hm hb
  · rw [← xorTo_all l0 l1 l0.length (by omega)]
    exact xor_short A0 c0 l0 A1 c1 l1 w hr0 hr1 hm hb
end Go.Proofs.YtcaojgdnhmgmlaaDoor.Q
