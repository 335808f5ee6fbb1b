/- term, plainly: the text of a term, by fuel; and that a term of size at most 1000 has at most 46 times its size in bytes. -/
import Derived.Test.YtcaojgdnhmgmlaaDoorTp06
import Derived.Lib.ItoaLen
set_option linter.unusedVariables false
set_option linter.unusedSimpArgs false
namespace Go.Proofs.YtcaojgdnhmgmlaaDoor.T
open Go.RowKit Go.Proofs.YtcaojgdnhmgmlaaDoor.Q Go.Proofs.YtcaojgdnhmgmlaaDoor.PTermPlays Go.Proofs.YtcaojgdnhmgmlaaDoorW.PrintWords Go.Proofs.YtcaojgdnhmgmlaaDoorW.PrintLast
set_option linter.unusedVariables false
/-- The word ahead of a term of parts. -/
def wordOf (q : Int) : List UInt8 := if q = 3 then [107, 100, 102] else if q = 4 then [109, 105, 120] else [101, 110, 99]
/-- The text of the term with this id, parts so many deep. -/
def textF (xs : List S104) : Nat → Int → List UInt8
  | 0, _ => []
  | k + 1, id =>
    if (rdOf z104 xs (id - 1)).f0 = 1 then 97 :: Lib.itoa (rdOf z104 xs (id - 1)).f4
    else if (rdOf z104 xs (id - 1)).f0 = 2 then 39 :: ((rdOf z104 xs (id - 1)).f3.data.toList ++ [39])
    else if (rdOf z104 xs (id - 1)).f0 = 3 then wordOf 3 ++ (40 :: (textF xs k (rdOf z104 xs (id - 1)).f1 ++ (44 :: ((rdOf z104 xs (id - 1)).f3.data.toList ++ [41]))))
    else wordOf (rdOf z104 xs (id - 1)).f0 ++ (40 :: (textF xs k (rdOf z104 xs (id - 1)).f1 ++ (44 :: (textF xs k (rdOf z104 xs (id - 1)).f2 ++ [41]))))
theorem wordOf_len (q : Int) : (wordOf q).length = 3 := by unfold wordOf; split; rfl; split <;> rfl
theorem rd_fine {xs : List S104} (hf : Fine xs) {id : Int} (h1 : 1 ≤ id) (h2 : id ≤ xs.length) : FineAt (id - 1).toNat (rdOf z104 xs (id - 1)) ∧ ((id - 1).toNat : Int) = id - 1 := by
  obtain ⟨i, hi⟩ := Int.eq_ofNat_of_zero_le (show 0 ≤ id - 1 by omega)
  have hil : i < xs.length := by omega
  have e : rdOf z104 xs (id - 1) = xs[i] := by rw [hi]; exact rdn xs i hil
  rw [e, hi]
  exact ⟨hf i hil, rfl⟩
/-- A term's size, of its parts' sizes. -/
theorem size_at {xs : List S104} (hf : Fine xs) {id : Int} (h1 : 1 ≤ id) (h2 : id ≤ xs.length) : rdOf 0 (szs xs) (id - 1) = szNode (szs xs) (rdOf z104 xs (id - 1)) := by
  obtain ⟨i, hi⟩ := Int.eq_ofNat_of_zero_le (show 0 ≤ id - 1 by omega)
  have hil : i < xs.length := by omega
  have e : rdOf z104 xs (id - 1) = xs[i] := by rw [hi]; exact rdn xs i hil
  have hx := hf i hil
  have hs := szs_at _ xs rfl i hil
  have e2 : rdOf 0 (szs xs) (id - 1) = szNode (szs (xs.take i)) xs[i] := by
    rw [hi]
    unfold rdOf
    rw [Int.toNat_natCast, List.getD_eq_getElem?_getD, hs]; rfl
  have e3 : ∀ a : Int, 1 ≤ a ∧ a ≤ i → rdOf 0 (szs (xs.take i)) (a - 1) = rdOf 0 (szs xs) (a - 1) := fun a ha => by
    obtain ⟨j, hj⟩ := Int.eq_ofNat_of_zero_le (show 0 ≤ a - 1 by omega)
    rw [hj]
    exact szs_take xs i j (by omega) (by omega)
  rw [e, e2]
  unfold szNode
  by_cases c1 : xs[i].f0 = 1 ∨ xs[i].f0 = 2
  · rw [if_pos c1, if_pos c1]
  · rw [if_neg c1, if_neg c1]
    have hk := hx.kind
    rw [e3 _ (hx.one (by omega))]
    by_cases c3 : xs[i].f0 = 3
    · rw [if_pos c3, if_pos c3]
    · rw [if_neg c3, if_neg c3, e3 _ (hx.two (by omega))]
theorem size_nn (xs : List S104) (i : Int) : 0 ≤ rdOf 0 (szs xs) i ∧ rdOf 0 (szs xs) i ≤ great := rd_bounds (szs_bounds _ xs rfl) i
theorem textF_len {xs : List S104} (hn : xs.length < 100000) (hf : Fine xs) : ∀ (k : Nat) (id : Int), 1 ≤ id → id ≤ xs.length → rdOf 0 (szs xs) (id - 1) ≤ 1000 → ((textF xs k id).length : Int) ≤ 46 * rdOf 0 (szs xs) (id - 1)
  | 0, id, h1, h2, hs => by have := size_nn xs (id - 1); simp [textF]; omega
  | k + 1, id, h1, h2, hs => by
    obtain ⟨hx, hid⟩ := rd_fine hf h1 h2
    have hz := size_at hf h1 h2
    rw [hz] at hs ⊢
    unfold textF
    generalize rdOf z104 xs (id - 1) = x at hx hs hz ⊢
    have hk := hx.kind
    have hsh := hx.short
    rw [ByteArray.size] at hsh
    have hsl : x.f3.data.toList.length ≤ 40 := by rw [Array.length_toList]; exact hsh
    have hg : great = 1073741824 := rfl
    by_cases c1 : x.f0 = 1
    · have h5 := Lib.itoa_length_le x.f4 (by have := hx.atom c1; omega) (by have := hx.atom c1; omega)
      rw [if_pos c1, szNode, if_pos (.inl c1), List.length_cons]
      omega
    rw [if_neg c1]
    by_cases c2 : x.f0 = 2
    · rw [if_pos c2, szNode, if_pos (.inr c2), List.length_cons, List.length_append, List.length_singleton]
      omega
    rw [if_neg c2]
    have ho := hx.one (by omega)
    have hi1 := textF_len hn hf k x.f1 (by omega) (by omega)
    have hn1 := size_nn xs (x.f1 - 1)
    by_cases c3 : x.f0 = 3
    · have hq : szNode (szs xs) x = min (1 + rdOf 0 (szs xs) (x.f1 - 1)) great := by rw [szNode, if_neg (by omega), if_pos c3]
      rw [if_pos c3]
      rw [hq] at hs ⊢
      rw [List.length_append, List.length_cons, List.length_append, List.length_cons, List.length_append, List.length_singleton, wordOf_len]
      have := hi1 (by omega)
      omega
    · have ht := hx.two (by omega)
      have hi2 := textF_len hn hf k x.f2 (by omega) (by omega)
      have hn2 := size_nn xs (x.f2 - 1)
      have hq : szNode (szs xs) x = min (min (1 + rdOf 0 (szs xs) (x.f1 - 1)) great + rdOf 0 (szs xs) (x.f2 - 1)) great := by rw [szNode, if_neg (by omega), if_neg c3]
      rw [if_neg c3]
      rw [hq] at hs ⊢
      rw [List.length_append, List.length_cons, List.length_append, List.length_cons, List.length_append, List.length_singleton, wordOf_len]
      have := hi1 (by omega)
      have := hi2 (by omega)
      omega
/-- The sizes of a term's parts are smaller. -/
theorem size_parts {xs : List S104} (hf : Fine xs) {id : Int} (h1 : 1 ≤ id) (h2 : id ≤ xs.length) (hs : rdOf 0 (szs xs) (id - 1) ≤ 1000) :
    (3 ≤ (rdOf z104 xs (id - 1)).f0 → rdOf 0 (szs xs) ((rdOf z104 xs (id - 1)).f1 - 1) ≤ 1000) ∧ (4 ≤ (rdOf z104 xs (id - 1)).f0 → rdOf 0 (szs xs) ((rdOf z104 xs (id - 1)).f2 - 1) ≤ 1000) := by
  obtain ⟨hx, hid⟩ := rd_fine hf h1 h2
  have hz := size_at hf h1 h2
  rw [hz] at hs
  generalize rdOf z104 xs (id - 1) = x at hx hs hz ⊢
  have hg : great = 1073741824 := rfl
  have hn1 := size_nn xs (x.f1 - 1)
  have hn2 := size_nn xs (x.f2 - 1)
  have hk := hx.kind
  constructor
  · intro h3
    by_cases c3 : x.f0 = 3
    · rw [szNode, if_neg (by omega), if_pos c3] at hs; omega
    · rw [szNode, if_neg (by omega), if_neg c3] at hs; omega
  · intro h4
    rw [szNode, if_neg (by omega), if_neg (by omega)] at hs; omega
end Go.Proofs.YtcaojgdnhmgmlaaDoor.T
