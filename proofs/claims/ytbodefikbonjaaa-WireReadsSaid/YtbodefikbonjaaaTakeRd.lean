/- What Take and read say of the same bytes, plainly. -/
import Derived.Test.YtbodefikbonjaaaHTake
namespace Go.Proofs.Ytbodefikbonjaaa.Q
open Go.RowKit Go.Proofs.YtbodefikbonjaaaW.PrintWords Go.Proofs.YtbodefikbonjaaaW.PrintLast Go.Proofs.YtbodefikbonjaaaW.PrintMore
set_option linter.unusedVariables false

theorem bytesN_nn (b : List Int) (hu : u8L b) : 0 ≤ bytesN b :=
  (Pure.getV_bound (b.take 2) (fun x hx => hu x (List.mem_of_mem_take hx))).1
theorem take_yes (b : List Int) (k s : Int) (hu : u8L b) (h : (takeR b k s).2.2 = true) :
    0 ≤ (takeR b k s).2.1 ∧ (takeR b k s).2.1 ≤ b.length ∧ nxt k s b 0 = (b.drop (takeR b k s).2.1.toNat, 0) ∧ rdOk k s b 0 (takeR b k s).1 = true ∧ (∀ x ∈ (takeR b k s).1.f3, 0 ≤ x ∧ x < 256) := by
  have hn := bytesN_nn b hu
  unfold takeR at h ⊢
  by_cases k0 : k = 0
  · rw [if_pos k0] at h ⊢
    by_cases h1 : 1 ≤ b.length
    · rw [if_pos h1]
      refine ⟨by show (0 : Int) ≤ 1; omega, by show (1 : Int) ≤ _; omega, ?_, ?_, by simp⟩
      · rw [nxt, if_neg (by decide), if_pos k0, if_pos h1]; rfl
      · rw [rdOk, if_pos k0, valB, if_pos ⟨rfl, h1⟩]; simp
    · rw [if_neg h1] at h; cases h
  · rw [if_neg k0] at h ⊢
    by_cases k1 : k = 1
    · rw [if_pos k1] at h ⊢
      by_cases h1 : 1 ≤ s ∧ s ≤ 8 ∧ s ≤ b.length
      · rw [if_pos h1]
        refine ⟨by show (0 : Int) ≤ s; omega, by show s ≤ _; omega, ?_, ?_, by simp⟩
        · rw [nxt, if_neg (by decide), if_neg k0, if_pos k1, if_pos h1]
        · rw [rdOk, if_neg k0, if_pos k1, valN, if_pos ⟨rfl, h1⟩]; simp
      · rw [if_neg h1] at h; cases h
    · rw [if_neg k1] at h ⊢
      by_cases h1 : bytesIs b s
      · rw [if_pos h1]
        obtain ⟨a1, a2, a3⟩ := h1
        refine ⟨by show (0 : Int) ≤ 2 + bytesN b; omega, by show 2 + bytesN b ≤ _; omega, ?_, ?_, ?_⟩
        · rw [nxt, if_neg (by decide), if_neg k0, if_neg k1, if_pos ⟨a1, a2, a3⟩, show (2 + bytesN b).toNat = 2 + (bytesN b).toNat by omega]
        · rw [rdOk, if_neg k0, if_neg k1, valX, if_pos ⟨rfl, a1, a2, a3⟩]; simp
        · intro x hx
          have := Pure.u8_of (hu x (List.mem_of_mem_drop (List.mem_of_mem_take hx)))
          omega
      · rw [if_neg h1] at h; cases h
theorem take_no (b : List Int) (k s : Int) (h : (takeR b k s).2.2 = false) :
    (takeR b k s).1 = z47 ∧ (takeR b k s).2.1 = 0 ∧ nxt k s b 0 = ([], 4) ∧ rdOk k s b 0 z47 = true := by
  unfold takeR at h ⊢
  by_cases k0 : k = 0
  · rw [if_pos k0] at h ⊢
    by_cases h1 : 1 ≤ b.length
    · rw [if_pos h1] at h; cases h
    · rw [if_neg h1]
      refine ⟨rfl, rfl, ?_, ?_⟩
      · rw [nxt, if_neg (by decide), if_pos k0, if_neg h1]
      · rw [rdOk, if_pos k0, valB, if_neg (fun h => h1 h.2)]; rfl
  · rw [if_neg k0] at h ⊢
    by_cases k1 : k = 1
    · rw [if_pos k1] at h ⊢
      by_cases h1 : 1 ≤ s ∧ s ≤ 8 ∧ s ≤ b.length
      · rw [if_pos h1] at h; cases h
      · rw [if_neg h1]
        refine ⟨rfl, rfl, ?_, ?_⟩
        · rw [nxt, if_neg (by decide), if_neg k0, if_pos k1, if_neg h1]
        · rw [rdOk, if_neg k0, if_pos k1, valN, if_neg (fun h => h1 h.2)]; rfl
    · rw [if_neg k1] at h ⊢
      by_cases h1 : bytesIs b s
      · rw [if_pos h1] at h; cases h
      · rw [if_neg h1]
        refine ⟨rfl, rfl, ?_, ?_⟩
        · rw [nxt, if_neg (by decide), if_neg k0, if_neg k1, if_neg h1]
        · rw [rdOk, if_neg k0, if_neg k1, valX, if_neg (fun h => h1 h.2)]; rfl
theorem off_no (b : List Int) (k s : Int) : nxt k s b 4 = (b, 4) ∧ rdOk k s b 4 z47 = true := by
  refine ⟨by rw [nxt, if_pos (by decide)], ?_⟩
  unfold rdOk
  by_cases k0 : k = 0
  · rw [if_pos k0, valB, if_neg (fun h => by have := h.1; omega)]; rfl
  · rw [if_neg k0]
    by_cases k1 : k = 1
    · rw [if_pos k1, valN, if_neg (fun h => by have := h.1; omega)]; rfl
    · rw [if_neg k1, valX, if_neg (fun h => by have := h.1; omega)]; rfl
end Go.Proofs.Ytbodefikbonjaaa.Q
