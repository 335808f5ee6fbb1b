/- crc.More, by hand: what the sum of bytes is, byte by byte, eight steps each; the closure that takes a byte in, by a contract of its own. -/
import Derived.Test.YtbodefikbonjaaaQx0
namespace Go.Proofs.Ytbodefikbonjaaa.Q
open Go.RowKit Go.Proofs.YtbodefikbonjaaaW.PrintWords Go.Proofs.YtbodefikbonjaaaW.PrintLast Go.Proofs.YtbodefikbonjaaaW.PrintMore

/-- One step, as the program has it. -/
def crcStep (c : Int) : Int := Go.bits .xor .u32 (c / 2) (Go.bits .and .u32 3988292384 ((-(Go.bits .and .u32 c 1)) % 4294967296))
/-- So many steps. -/
def crcIt : Nat → Int → Int
  | 0, c => c
  | n + 1, c => crcStep (crcIt n c)
/-- A byte taken in. -/
def crcByte (c x : Int) : Int := crcIt 8 (Go.bits .xor .u32 c x)
/-- Bytes, one behind the other. -/
def crcRun (c : Int) (l : List Int) : Int := l.foldl crcByte c
def crcMore (s : Int) (l : List Int) : Int := Go.bits .xor .u32 (crcRun (Go.bits .xor .u32 s 4294967295) l) 4294967295

theorem crcStep_calls (c : Int) (w : World) : Calls Try.prog 17 #[.int .u32 c] w fun e w' => e = .returned (.int .u32 (crcStep c)) ∧ w = w' := by
  go_enter Try.func17, Try.ntmps17
  go_wp2
  go_ret
  exact ⟨rfl, rfl⟩

theorem byte_calls (c x : Int) (g : Nat) (w : World) (hx : 0 ≤ x) (hx2 : x ≤ 255) (hv : w.heap[g]? = some (.cells #[.int .u32 c] 24 (0, 0))) :
    Calls Try.prog 49 #[.int .u8 x, .pointer (some ⟨g, 0, none⟩)] w fun e w' =>
      e = .returned (.tuple #[]) ∧ w'.heap[g]? = some (.cells #[.int .u32 (crcByte c x)] 24 (0, 0)) ∧ Below g w w' := by
  have HV := Aside0.mk hv
  have hc := cell_of_one hv
  have hf := free_of_one hv
  have hv1 := Aside0.mk (one_setCell (u := .int .u32 (Go.bits .xor .u32 c x)) hv)
  clear hv
  go_enter Try.func49, Try.ntmps49
  go_wp2_with fail
  go_loopw [7] (fun i wr => ∃ k : Nat, k ≤ 8 ∧ i = .int .i64 k ∧ Aside0 (wr.heap[g]? = some (.cells #[.int .u32 (crcIt k (Go.bits .xor .u32 c x))] 24 (0, 0))) ∧ Below g w wr) (fun i _ => 8 - (intOf i).toNat)
  case atStart => exact ⟨0, by omega, rfl, hv1, (Below.refl g w).setCell (p := ⟨g, 0, none⟩) (Nat.le_refl g) _⟩
  case round =>
    obtain ⟨k, hk, rfl, hvr, hb⟩ := hrel
    have hc := cell_of_one hvr.out
    have hf := free_of_one hvr.out
    have hs := Aside0.mk (one_setCell (u := .int .u32 (crcIt (k + 1) (Go.bits .xor .u32 c x))) hvr.out)
    by_cases hlt : k < 8
    · go_wp2_with (first | (go_at_call 17; refine (crcStep_calls _ _).mono ?_; rintro e w' ⟨rfl, rfl⟩))
      go_roundw
      case rel => exact ⟨k + 1, by omega, by go_num, hs, hb.setCell (p := ⟨g, 0, none⟩) (Nat.le_refl g) _⟩
      case measure => simp [intOf]; omega
    · have hk8 : k = 8 := by omega
      subst hk8
      have hz := Aside0.mk hvr.out
      go_wp2_with fail
      go_end0
      exact ⟨rfl, hz.out, hb⟩

set_option linter.unusedVariables false
theorem crcRun_snoc (c : Int) (l : List Int) (k : Nat) (h : k < l.length) : crcRun c (l.take (k + 1)) = crcByte (crcRun c (l.take k)) (rd l k) := by
  unfold crcRun rd
  rw [List.take_succ_eq_append_getElem h, List.foldl_append]
  simp [List.getD_eq_getElem?_getD, h]

def crc_More.f (a0 : Int) (l1 : List Int) : Option (Int) := if ∀ x ∈ l1, (Lit.int .u8 x).wf = true then some (crcMore a0 l1) else none

theorem rd_u8 {l : List Int} (h : ∀ x ∈ l, (Lit.int .u8 x).wf = true) (i : Int) : 0 ≤ rd l i ∧ rd l i ≤ 255 := by
  unfold rd
  rw [List.getD_eq_getElem?_getD]
  by_cases hi : i.toNat < l.length
  · rw [List.getElem?_eq_getElem hi, Option.getD_some]
    have := h _ (List.getElem_mem hi)
    simp [Lit.wf, IntKind.min, IntKind.max, IntKind.signed, IntKind.bits] at this
    omega
  · rw [List.getElem?_eq_none (by omega)]; simp

set_option maxHeartbeats 1000000 in
theorem crc_More.calls (a0 : Int) (A1 : Option Addr) (c1 : Nat) (l1 : List Int) (r : Int) (w : World) (hr1 : Kd.C (Kd.int .u8) w A1 l1.length l1) (hc1 : l1.length ≤ c1) (h : crc_More.f a0 l1 = some r) :
    Calls Try.prog 14 #[.int .u32 a0, .slice A1 l1.length c1] w fun e w' => e = .returned (.int .u32 r) ∧ Below w.heap.size w w' := by
  unfold crc_More.f at h
  split at h
  case isFalse => cases h
  rename_i hw
  obtain rfl := Option.some.inj h
  clear h
  have HR := Aside0.mk hr1
  have HW := Aside0.mk hw
  have hmax := Kd.C_max hr1
  clear hr1 hw hc1
  go_enter Try.func14, Try.ntmps14
  go_wp2_with fail
  go_loopw [14] (fun i wr => ∃ k : Nat, k ≤ l1.length ∧ i = .int .i64 k ∧ Aside0 (wr.heap[w.heap.size]? = some (.cells #[.int .u32 (crcRun (Go.bits .xor .u32 a0 4294967295) (l1.take k))] 24 (0, 0))) ∧ Below w.heap.size w wr) (fun i _ => l1.length - (intOf i).toNat)
  case atStart => exact ⟨0, by omega, rfl, ⟨heap_alloc_new w _⟩, (Below.refl _ _).alloc (Nat.le_refl _) _⟩
  case round =>
    obtain ⟨k, hk, rfl, hvr, hb⟩ := hrel
    by_cases hlt : k < l1.length
    · obtain ⟨ad, e, hx⟩ := Kd.at_int (Kd.C_below HR.out hb) (k : Int) (by omega) (by omega)
      cases e
      rw [Int.toNat_natCast] at hx
      have hxr := rd_u8 HW.out (k : Int)
      go_wp2_with fail
      refine (byte_calls _ _ _ _ hxr.1 hxr.2 hvr.out).mono ?_
      rintro e w' ⟨rfl, hv', hb'⟩
      have HV' := Aside0.mk hv'
      clear hv'
      go_wp2_with fail
      go_roundw
      case rel => exact ⟨k + 1, by omega, by go_num, ⟨by rw [crcRun_snoc _ _ _ hlt]; exact HV'.out⟩, hb.trans hb'⟩
      case measure => simp [intOf]; omega
    · have hk8 : k = l1.length := by omega
      subst hk8
      have hc := cell_of_one hvr.out
      go_wp2_with fail
      go_ret
      exact ⟨by simp [crcMore], hb⟩
end Go.Proofs.Ytbodefikbonjaaa.Q
