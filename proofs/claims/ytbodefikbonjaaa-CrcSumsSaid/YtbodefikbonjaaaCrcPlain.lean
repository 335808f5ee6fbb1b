/- The sums, plainly: in natural numbers; a sum that goes on; that a step, and a byte taken in, can be undone. -/
import Derived.Test.YtbodefikbonjaaaHCrc
import Derived.Laws.BitsAllLaws
namespace Go.Proofs.Ytbodefikbonjaaa.Q
open Go.RowKit Go.Proofs.YtbodefikbonjaaaW.PrintWords
set_option linter.unusedVariables false

def stepN (c : Nat) : Nat := if c % 2 = 1 then (c / 2) ^^^ 3988292384 else c / 2
def itN : Nat → Nat → Nat
  | 0, c => c
  | n + 1, c => stepN (itN n c)
def byteN (c x : Nat) : Nat := itN 8 (c ^^^ x)
def runN (c : Nat) (l : List Nat) : Nat := l.foldl byteN c

theorem stepN_lt (c : Nat) (h : c < 4294967296) : stepN c < 4294967296 := by
  unfold stepN
  split
  · exact Nat.xor_lt_two_pow (n := 32) (by omega) (by omega)
  · omega
theorem itN_lt (n c : Nat) (h : c < 4294967296) : itN n c < 4294967296 := by
  induction n with
  | zero => exact h
  | succ n ih => exact stepN_lt _ ih
theorem xor_lt32 (a b : Nat) (ha : a < 4294967296) (hb : b < 4294967296) : a ^^^ b < 4294967296 := Nat.xor_lt_two_pow (n := 32) ha hb
theorem byteN_lt (c x : Nat) (h : c < 4294967296) (hx : x < 256) : byteN c x < 4294967296 := itN_lt _ _ (xor_lt32 _ _ h (by omega))
theorem runN_lt (l : List Nat) : ∀ (c : Nat), c < 4294967296 → (∀ x ∈ l, x < 256) → runN c l < 4294967296 := by
  induction l with
  | nil => intro c h _; exact h
  | cons x l ih =>
    intro c h hx
    exact ih _ (byteN_lt c x h (hx x (by simp))) (fun y hy => hx y (by simp [hy]))

theorem stepN_inj (a b : Nat) (ha : a < 4294967296) (hb : b < 4294967296) (h : stepN a = stepN b) : a = b := by
  have top : ∀ c : Nat, c < 4294967296 → (c / 2).testBit 31 = false := fun c hc => Nat.testBit_lt_two_pow (by omega)
  have pt : Nat.testBit 3988292384 31 = true := by decide
  unfold stepN at h
  by_cases h1 : a % 2 = 1 <;> by_cases h2 : b % 2 = 1
  · rw [if_pos h1, if_pos h2] at h
    have : a / 2 = b / 2 := by
      have := congrArg (· ^^^ 3988292384) h
      simpa [Nat.xor_assoc] using this
    omega
  · rw [if_pos h1, if_neg h2] at h
    have := congrArg (Nat.testBit · 31) h
    simp [Nat.testBit_xor, top a ha, top b hb, pt] at this
  · rw [if_neg h1, if_pos h2] at h
    have := congrArg (Nat.testBit · 31) h
    simp [Nat.testBit_xor, top a ha, top b hb, pt] at this
  · rw [if_neg h1, if_neg h2] at h
    omega
theorem itN_inj (n : Nat) : ∀ (a b : Nat), a < 4294967296 → b < 4294967296 → itN n a = itN n b → a = b := by
  induction n with
  | zero => intro a b _ _ h; exact h
  | succ n ih => intro a b ha hb h; exact ih a b ha hb (stepN_inj _ _ (itN_lt n a ha) (itN_lt n b hb) h)
theorem xor_cancel_right (a b x : Nat) (h : a ^^^ x = b ^^^ x) : a = b := by
  have := congrArg (· ^^^ x) h
  simpa [Nat.xor_assoc] using this
theorem xor_cancel_left (a b x : Nat) (h : x ^^^ a = x ^^^ b) : a = b := by
  rw [Nat.xor_comm x a, Nat.xor_comm x b] at h
  exact xor_cancel_right a b x h
theorem byteN_inj (a b x : Nat) (ha : a < 4294967296) (hb : b < 4294967296) (hx : x < 256) (h : byteN a x = byteN b x) : a = b :=
  xor_cancel_right a b x (itN_inj 8 _ _ (xor_lt32 _ _ ha (by omega)) (xor_lt32 _ _ hb (by omega)) h)
theorem byteN_inj2 (c x y : Nat) (hc : c < 4294967296) (hx : x < 256) (hy : y < 256) (h : byteN c x = byteN c y) : x = y :=
  xor_cancel_left x y c (itN_inj 8 _ _ (xor_lt32 _ _ hc (by omega)) (xor_lt32 _ _ hc (by omega)) h)
theorem runN_inj (l : List Nat) : ∀ (a b : Nat), a < 4294967296 → b < 4294967296 → (∀ x ∈ l, x < 256) → runN a l = runN b l → a = b := by
  induction l with
  | nil => intro a b _ _ _ h; exact h
  | cons x l ih =>
    intro a b ha hb hx h
    have hx0 := hx x (by simp)
    exact byteN_inj a b x ha hb hx0 (ih _ _ (byteN_lt a x ha hx0) (byteN_lt b x hb hx0) (fun y hy => hx y (by simp [hy])) h)

/-! The program's numbers are these. -/
theorem crcStep_nat (c : Nat) (h : c < 4294967296) : crcStep (c : Int) = (stepN c : Int) := by
  unfold crcStep stepN
  rw [show (1 : Int) = ((1 : Nat) : Int) from rfl, u32_and_nat c 1 h (by omega), nat_mask1]
  have h2 : (c : Int) / 2 = ((c / 2 : Nat) : Int) := by omega
  by_cases h1 : c % 2 = 1
  · rw [if_pos h1, h1, show (-((1 : Nat) : Int)) % 4294967296 = ((4294967295 : Nat) : Int) from by decide, show (3988292384 : Int) = ((3988292384 : Nat) : Int) from rfl,
      u32_and_nat _ _ (by omega) (by omega), show (3988292384 &&& 4294967295 : Nat) = 3988292384 from by decide, h2, u32_xor_nat _ _ (by omega) (by omega)]
  · have h0 : c % 2 = 0 := by omega
    rw [if_neg h1, h0, show (-((0 : Nat) : Int)) % 4294967296 = ((0 : Nat) : Int) from by decide, show (3988292384 : Int) = ((3988292384 : Nat) : Int) from rfl,
      u32_and_nat _ _ (by omega) (by omega), show (3988292384 &&& 0 : Nat) = 0 from by decide, h2, u32_xor_nat _ _ (by omega) (by omega), Nat.xor_zero]
theorem crcIt_nat (n c : Nat) (h : c < 4294967296) : crcIt n (c : Int) = (itN n c : Int) := by
  induction n with
  | zero => rfl
  | succ n ih => simp only [crcIt, itN]; rw [ih, crcStep_nat _ (itN_lt n c h)]
theorem crcByte_nat (c x : Nat) (h : c < 4294967296) (hx : x < 256) : crcByte (c : Int) (x : Int) = (byteN c x : Int) := by
  unfold crcByte byteN
  rw [u32_xor_nat c x h (by omega), crcIt_nat _ _ (xor_lt32 _ _ h (by omega))]
theorem crcRun_nat (l : List Nat) : ∀ (c : Nat), c < 4294967296 → (∀ x ∈ l, x < 256) → crcRun (c : Int) (l.map fun x : Nat => (x : Int)) = (runN c l : Int) := by
  induction l with
  | nil => intro c _ _; rfl
  | cons x l ih =>
    intro c h hx
    have hx0 := hx x (by simp)
    show crcRun (crcByte (c : Int) (x : Int)) (l.map fun x : Nat => (x : Int)) = _
    rw [crcByte_nat c x h hx0, ih _ (byteN_lt c x h hx0) (fun y hy => hx y (by simp [hy]))]
    rfl
def moreN (s : Nat) (l : List Nat) : Nat := runN (s ^^^ 4294967295) l ^^^ 4294967295
theorem crcMore_nat (s : Nat) (l : List Nat) (h : s < 4294967296) (hx : ∀ x ∈ l, x < 256) : crcMore (s : Int) (l.map fun x : Nat => (x : Int)) = (moreN s l : Int) := by
  unfold crcMore moreN
  have h1 := xor_lt32 s 4294967295 h (by omega)
  rw [show (4294967295 : Int) = ((4294967295 : Nat) : Int) from rfl, u32_xor_nat s _ h (by omega), crcRun_nat l _ h1 hx, u32_xor_nat _ _ (runN_lt l _ h1 hx) (by omega)]
theorem moreN_lt (s : Nat) (l : List Nat) (h : s < 4294967296) (hx : ∀ x ∈ l, x < 256) : moreN s l < 4294967296 :=
  xor_lt32 _ _ (runN_lt l _ (xor_lt32 s _ h (by omega)) hx) (by omega)
theorem moreN_append (s : Nat) (a b : List Nat) : moreN s (a ++ b) = moreN (moreN s a) b := by
  unfold moreN
  rw [Nat.xor_assoc _ 4294967295 4294967295, Nat.xor_self, Nat.xor_zero]
  unfold runN
  rw [List.foldl_append]
/-- Bytes as natural numbers. -/
theorem bytes_nat (l : List Int) (h : ∀ x ∈ l, (Lit.int .u8 x).wf = true) : ∃ m : List Nat, l = (m.map fun x : Nat => (x : Int)) ∧ ∀ x ∈ m, x < 256 := by
  refine ⟨l.map Int.toNat, ?_, ?_⟩
  · rw [List.map_map]
    conv => lhs; rw [← List.map_id l]
    refine List.map_congr_left fun x hx => ?_
    have := h x hx
    simp [Lit.wf, IntKind.min, IntKind.max, IntKind.signed, IntKind.bits] at this
    simp; omega
  · intro x hx
    obtain ⟨y, hy, rfl⟩ := List.mem_map.1 hx
    have := h y hy
    simp [Lit.wf, IntKind.min, IntKind.max, IntKind.signed, IntKind.bits] at this
    omega
theorem nat_wf (m : List Nat) (h : ∀ x ∈ m, x < 256) : ∀ x ∈ (m.map fun x : Nat => (x : Int)), (Lit.int .u8 x).wf = true := by
  intro x hx
  obtain ⟨y, hy, rfl⟩ := List.mem_map.1 hx
  have := h y hy
  simp [Lit.wf, IntKind.min, IntKind.max, IntKind.signed, IntKind.bits]
  omega
theorem alive_sum : crcMore 0 [49, 50, 51, 52, 53, 54, 55, 56, 57] = 3421780262 := by decide +kernel
theorem alive_wf : ∀ x ∈ ([49, 50, 51, 52, 53, 54, 55, 56, 57] : List Int), (Lit.int .u8 x).wf = true := by decide
end Go.Proofs.Ytbodefikbonjaaa.Q
