/- term: the program's table and the document's, side by side in memory. · term: the law's walk. · term: an argument that is a slice of acts, read as a list. -/
import Derived.Test.YtcaojgdnhmgmlaaDoorTp10
import Derived.Deep.Slices
import Derived.ChangeSame
set_option linter.unusedVariables false
set_option linter.unusedSimpArgs false
section
namespace Go.Proofs.YtcaojgdnhmgmlaaDoor.T
open Go.RowKit Go.Proofs.YtcaojgdnhmgmlaaDoor.Q Go.Proofs.YtcaojgdnhmgmlaaDoor.PTermPlays Go.Proofs.YtcaojgdnhmgmlaaDoorW.PrintWords Go.Proofs.YtcaojgdnhmgmlaaDoorW.PrintLast Go.Proofs.YtcaojgdnhmgmlaaDoorW.PrintMore
set_option linter.unusedVariables false

/-- The table at tb holds the terms xs, the slice v the document's ys; they share no memory; what is older than w is as it was. -/
def Both (w wr : World) (tb mp : Nat) (xs : List S104) (v : Value) (ys : List S104) : Prop :=
  ∃ F1 F2 : Nat → Prop, TabS w.heap.size F1 wr tb mp xs ∧ Kd.R k104 104 wr w.heap.size F2 v ys ∧ (∀ k, F1 k → ¬ F2 k) ∧ (∀ k, F1 k → w.heap.size ≤ k) ∧ Below w.heap.size w wr
theorem TabS.bound {base : Nat} {F : Nat → Prop} {W : World} {tb mp : Nat} {xs : List S104} (h : TabS base F W tb mp xs) : TabS base (fun k => F k ∧ k < W.heap.size) W tb mp xs := by
  obtain ⟨A, B, es, clk, hR, hE⟩ := h
  exact ⟨A, B, es, clk, hR.bound, hE⟩
theorem Both.slice {w wr : World} {tb mp : Nat} {xs : List S104} {v : Value} {ys : List S104} (h : Both w wr tb mp xs v ys) : ∃ A c, v = .slice A ys.length c := by
  obtain ⟨F1, F2, h1, h2, _⟩ := h
  exact Kd.R_slice h2
theorem Both.below {w wr : World} {tb mp : Nat} {xs : List S104} {v : Value} {ys : List S104} (h : Both w wr tb mp xs v ys) : Below w.heap.size w wr := by
  obtain ⟨F1, F2, h1, h2, h3, h4, h5⟩ := h
  exact h5
theorem Both.start {w w1 : World} {tb mp : Nat} (h : TabS w.heap.size (fun k => w.heap.size ≤ k) w1 tb mp []) (hb : Below w.heap.size w w1) : Both w w1 tb mp [] (.slice none 0 0) [] :=
  ⟨_, fun _ => False, h, Kd.R_nil _ _ _ _ _, fun _ _ h => h, fun _ h => h, hb⟩
theorem both_of (w wr : World) (tb mp : Nat) (xs : List S104) (v : Value) (hB : Both w wr tb mp xs v xs) (hn : xs.length < 100000) (hf : Fine xs) (x : S68) :
    Calls Tryd.prog 48 #[v, .agg #[.int .i64 x.f0, .int .i64 x.f1, .int .i64 x.f2, .string x.f3]] wr fun e w' => ∃ v', e = .returned (.tuple #[v', .int .i64 (doR xs x).2]) ∧ Both w w' tb mp xs v' (doR xs x).1 := by
  obtain ⟨F1, F2, h1, h2, h3, h4, h5⟩ := hB
  refine (oubliettelaw15_Of.calls (xs.length + 2) F2 v xs x.f0 x.f1 x.f2 x.f3 (doR xs x).1 (doR xs x).2 w wr h5 h2 (rof_eq xs hn hf.good x _ (Nat.le_refl _))).mono ?_
  rintro e w' ⟨v', he, hR, hb, hk⟩
  refine ⟨v', he, fun k => F1 k ∧ k < wr.heap.size, _, h1.bound.step (fun k hF hl => hk.2 k hl (h3 k hF.1)), hR, ?_, fun k hk => h4 k hk.1, hb⟩
  rintro k ⟨a, b⟩ (c | c)
  · exact h3 k a c
  · omega
theorem both_do (w wr : World) (tb mp : Nat) (xs : List S104) (v : Value) (ys : List S104) (hB : Both w wr tb mp xs v ys) (hn : xs.length < 100000) (x : S68) :
    Calls Tryd.prog 49 #[.pointer (some ⟨tb, 0, none⟩), .agg #[.int .i64 x.f0, .int .i64 x.f1, .int .i64 x.f2, .string x.f3]] wr fun e w' => e = .returned (.int .i64 (doR xs x).2) ∧ Both w w' tb mp (doR xs x).1 v ys := by
  obtain ⟨F1, F2, h1, h2, h3, h4, h5⟩ := hB
  refine (do_calls w.heap.size F1 wr tb mp xs h1 hn x).mono ?_
  rintro e w' ⟨he, hT, hq, hk⟩
  refine ⟨he, fun k => F1 k ∨ wr.heap.size ≤ k, fun k => F2 k ∧ k < wr.heap.size, hT, ?_, ?_, ?_, ?_⟩
  · exact Kd.R_step (Kd.R_mono (Kd.R_bound h2) (fun k hk => ⟨hk.1, hk.2.2.1⟩)) (fun k hF hl => hk k hl (fun h => h3 k h hF.1))
  · rintro k (a | a) ⟨b, c⟩
    · exact h3 k a b
    · omega
  · rintro k (a | a)
    · exact h4 k a
    · exact Nat.le_trans h5.size a
  · exact ⟨hq.os.trans h5.os, hq.tape.trans h5.tape, hq.output.trans h5.output, Nat.le_trans h5.size hq.size, fun k hl => (hk k (Nat.lt_of_lt_of_le hl h5.size) (fun h => by have := h4 k h; omega)).trans (h5.block k hl)⟩
theorem both_len (w wr : World) (tb mp : Nat) (xs : List S104) (v : Value) (ys : List S104) (hB : Both w wr tb mp xs v ys) :
    Calls Tryd.prog 50 #[.pointer (some ⟨tb, 0, none⟩)] wr fun e w' => e = .returned (.int .i64 xs.length) ∧ wr = w' := by
  obtain ⟨F1, F2, h1, h2, h3, h4, h5⟩ := hB
  obtain ⟨At, Bt, ct, cb, a, b, c, d⟩ := h1.facts
  exact len_calls wr tb At xs.length ct a
theorem Both.like {w wr : World} {tb mp : Nat} {xs : List S104} {A : Option Addr} {n c : Nat} (hB : Both w wr tb mp xs (.slice A n c) xs) (hL : LaidN w) (hn : xs.length < 100000) (hf : Fine xs) : LTab wr tb A c xs ∧ n = xs.length := by
  obtain ⟨F1, F2, h1, h2, h3, h4, h5⟩ := hB
  obtain ⟨A', c', he, hc, hC⟩ := Kd.R_reads h2
  obtain ⟨rfl, rfl, rfl⟩ := Value.slice.inj he
  exact ⟨⟨h1.facts, hC, hc, hL.below h5, hn, hf⟩, rfl⟩
end Go.Proofs.YtcaojgdnhmgmlaaDoor.T
end
section
namespace Go.Proofs.YtcaojgdnhmgmlaaDoor.T
open Go.RowKit Go.Proofs.YtcaojgdnhmgmlaaDoor.Q Go.Proofs.YtcaojgdnhmgmlaaDoor.PTermPlays Go.Proofs.YtcaojgdnhmgmlaaDoorW.PrintWords Go.Proofs.YtcaojgdnhmgmlaaDoorW.PrintLast Go.Proofs.YtcaojgdnhmgmlaaDoorW.PrintMore
set_option linter.unusedVariables false

set_option maxRecDepth 100000 in
set_option maxHeartbeats 8000000 in
theorem plays_calls (w : World) (hL : LaidN w) (A0 : Option Addr) (c0 : Nat) (l : List S68) (hr : Kd.C k68 w A0 l.length l) (hc : l.length ≤ c0) :
    Calls Tryd.prog 10 #[.slice A0 l.length c0] w fun e w' => e = .returned (.bool true) ∧ Below w.heap.size w w' := by
  obtain ⟨k, b, hlt, hb⟩ := rlight l
  have HLt : Aside0 (Calls Tryd.prog 45 #[.slice A0 l.length c0] w fun e w' => e = .returned (.bool b) ∧ Below w.heap.size w w') := ⟨(oubliettelaw15_Light.calls k A0 c0 l b w hr hc hlt).mono fun e w' ⟨x, y⟩ => ⟨x, y.below⟩⟩
  have HL := Aside0.mk hL
  have HR := Aside0.mk hr
  clear hlt hL hr
  cases b
  · clear hb
    go_enter Tryd.func10, Tryd.ntmps10
    go_wp2_with fail
    refine HLt.out.mono ?_
    rintro e w1 ⟨rfl, hb⟩
    have HB1 := Aside0.mk hb
    clear hb
    go_wp2_with fail
    refine (alive_calls w1 (HL.out.below HB1.out)).mono ?_
    rintro e w2 ⟨rfl, hb⟩
    have HB2 := Aside0.mk (below_step HB1.out hb)
    clear hb
    go_wp2_with fail
    go_ret
    exact ⟨rfl, HB2.out⟩
  · obtain ⟨h60, h40⟩ := hb rfl
    have H60 := Aside0.mk h60
    have HF := Aside0.mk (actsX_fine l h40)
    clear hb h60 h40
    go_enter Tryd.func10, Tryd.ntmps10
    go_wp2_with fail
    refine HLt.out.mono ?_
    rintro e w1 ⟨rfl, hb⟩
    have HB1 := Aside0.mk hb
    clear hb HLt
    go_wp2_with fail
    refine (new_calls w1).mono ?_
    rintro e w2 ⟨tb, mp, rfl, hT, hb⟩
    have HBo := Aside0.mk (Both.start hT hb)
    clear hT hb
    go_wp2_with fail
    go_loopw [4, 5] (fun v4 v5 wr => ∃ i : Nat, v5 = .int .i64 (i : Int) ∧ Aside0 (i ≤ l.length) ∧ Aside0 (Both w1 wr tb mp (actsX l i) v4 (actsX l i))) (fun _ v5 _ => ((l.length : Int) - intOf v5).toNat)
    case atStart => exact ⟨0, rfl, ⟨Nat.zero_le _⟩, HBo⟩
    case round =>
      clear HBo
      obtain ⟨i, rfl, HI, HBo⟩ := hrel
      by_cases hlt : i < l.length
      · have e1 : decide ((i : Int) < l.length) = true := decide_eq_true (by omega)
        have p0 : (0 : Int) ≤ i := by omega
        have p1 : (i : Int) < l.length := by omega
        obtain ⟨ad, ea, _⟩ := at_T68 (Kd.C_below HR.out (below_step HB1.out HBo.out.below)) (i : Int) p0 p1
        cases ea
        have HX : Aside0 (∀ W, Below w1.heap.size w1 W → W.cell? (ad.add (i * 4)) = some (.int .i64 (rd_T68 l (i : Int)).f0) ∧ W.cell? ⟨(ad.add (i * 4)).block, (ad.add (i * 4)).off + 1, none⟩ = some (.int .i64 (rd_T68 l (i : Int)).f1) ∧ W.cell? ⟨(ad.add (i * 4)).block, (ad.add (i * 4)).off + 2, none⟩ = some (.int .i64 (rd_T68 l (i : Int)).f2) ∧ W.cell? ⟨(ad.add (i * 4)).block, (ad.add (i * 4)).off + 3, none⟩ = some (.string (rd_T68 l (i : Int)).f3)) := ⟨fun W hW => by
          obtain ⟨ad2, ea, hx⟩ := at_T68 (Kd.C_below HR.out (below_step HB1.out hW)) (i : Int) p0 p1
          cases ea
          rw [Int.toNat_natCast] at hx
          exact hx⟩
        obtain ⟨hf, hn⟩ := HF.out i (by omega)
        have hn2 : (actsX l i).length < 100000 := by have := H60.out; omega
        have HD : Aside0 (actsX l (i + 1) = (doR (actsX l i) (rd_T68 l (i : Int))).1) := ⟨rfl⟩
        have HOf := Aside0.mk (fun v hB => both_of w1 wr tb mp (actsX l i) v hB hn2 hf (rd_T68 l (i : Int)))
        have HDo := Aside0.mk (fun w' v ys hB => both_do w1 w' tb mp (actsX l i) v ys hB hn2 (rd_T68 l (i : Int)))
        have hwi : wrap64 ((i : Int) + 1) = ((i + 1 : Nat) : Int) := by have := H60.out; unfold wrap64; omega
        have HLT := Aside0.mk hlt
        generalize rd_T68 l (i : Int) = x at HX HD HOf HDo
        obtain ⟨hx0, hx1, hx2, hx3⟩ := HX.out wr HBo.out.below
        clear hlt hf hn hn2
        go_wp2_with fail
        refine (HOf.out _ HBo.out).mono ?_
        rintro e w3 ⟨v', rfl, hB3⟩
        obtain ⟨A', c', rfl⟩ := hB3.slice
        have HB3 := Aside0.mk hB3
        clear hB3 hx0 hx1 hx2 hx3
        obtain ⟨hx0, hx1, hx2, hx3⟩ := HX.out w3 HB3.out.below
        generalize doR (actsX l i) x = r at HD HB3 HDo
        go_wp2_with fail
        refine (HDo.out _ _ _ HB3.out).mono ?_
        rintro e w4 ⟨rfl, hB4⟩
        have HB4 := Aside0.mk hB4
        clear hB4 hx0 hx1 hx2 hx3
        go_wp2_with fail
        refine (both_len w1 w4 tb mp r.1 _ r.1 HB4.out).mono ?_
        rintro e w5 ⟨rfl, rfl⟩
        go_wp2_with fail
        go_roundw
        case rel => exact ⟨i + 1, by rw [hwi], ⟨by have := HLT.out; omega⟩, ⟨by rw [HD.out]; exact HB4.out⟩⟩
        case measure => rw [hwi]; simp [intOf]; have := HLT.out; omega
      · obtain rfl : i = l.length := by have := HI.out; omega
        have e1 : decide ((l.length : Int) < l.length) = false := decide_eq_false (by omega)
        obtain ⟨hf, hn⟩ := HF.out l.length (Nat.le_refl _)
        have hn2 : (actsX l l.length).length ≤ 60 := Nat.le_trans hn H60.out
        obtain ⟨A, c, rfl⟩ := HBo.out.slice
        have HT := Aside0.mk (HBo.out.like (HL.out.below HB1.out) (by omega) hf).1
        generalize actsX l l.length = xs at HBo HT hn2
        have hw : IntKind.i64.wrap ((xs.length : Int) + 1) = (xs.length : Int) + 1 := wr64' _ (by omega) (by omega)
        have hw2 : wrap64 ((xs.length : Int) + 1) = (xs.length : Int) + 1 := by unfold wrap64; omega
        have HN := Aside0.mk hn2
        have HBw := Aside0.mk (below_step HB1.out HBo.out.below)
        clear hlt hf hn hn2
        go_wp2_with fail
        obtain ⟨wo, rfl⟩ : ∃ wo : World, wo = wr := ⟨_, rfl⟩
        go_loopw [8] (fun v wr => ∃ id : Int, v = .int .i64 id ∧ Aside0 (-1 ≤ id ∧ id ≤ (xs.length : Int) + 2) ∧ Aside0 (Below wo.heap.size wo wr)) (fun v _ => ((xs.length : Int) + 2 - intOf v).toNat)
        case atStart => exact ⟨-1, rfl, ⟨by omega⟩, ⟨Below.refl _ _⟩⟩
        case round =>
          obtain ⟨id, rfl, HI2, HB2⟩ := hrel
          by_cases hlt : id ≤ (xs.length : Int) + 1
          · have e2 : decide (id ≤ (xs.length : Int) + 1) = true := decide_eq_true hlt
            have hwi : wrap64 (id + 1) = id + 1 := by have := HI2.out; have := HN.out; unfold wrap64; omega
            have hwi2 : IntKind.i64.wrap (id + 1) = id + 1 := by have := HI2.out; have := HN.out; exact wr64' _ (by omega) (by omega)
            have HLT := Aside0.mk hlt
            clear hlt
            go_wp2_with fail
            refine (like_calls wr tb A c xs (HT.out.below HB2.out) id).mono ?_
            rintro e w6 ⟨rfl, hb⟩
            have HB6 := Aside0.mk (below_step HB2.out hb)
            clear hb
            go_wp2_with fail
            go_roundw
            case rel => exact ⟨id + 1, rfl, ⟨by have := HI2.out; have := HLT.out; omega⟩, HB6⟩
            case measure => simp [intOf]; have := HLT.out; omega
          · have e2 : decide (id ≤ (xs.length : Int) + 1) = false := decide_eq_false hlt
            clear hlt
            go_wp2_with fail
            refine (alive_calls wr ((HL.out.below HBw.out).below HB2.out)).mono ?_
            rintro e w7 ⟨rfl, hb⟩
            have HB7 := Aside0.mk (below_step (below_step HBw.out HB2.out) hb)
            clear hb
            go_wp2_with fail
            go_ret
            exact ⟨rfl, HB7.out⟩
end Go.Proofs.YtcaojgdnhmgmlaaDoor.T
end
section
namespace Go.Proofs.YtcaojgdnhmgmlaaDoor.T
open Go.RowKit Go.ChangeShapes Go.WideShapes Go.Deep Go.Proofs.YtcaojgdnhmgmlaaDoor.PTermPlays Go.Proofs.YtcaojgdnhmgmlaaDoorW.PrintWords
set_option linter.unusedVariables false
variable {H : Type} {enc : TypeId × Value → H} {w : World} {held : Bool}

theorem cells3 : Tryd.prog.cellsOf 3 = 1 := by kernel_rfl
theorem cells9 : Tryd.prog.cellsOf 9 = 1 := by kernel_rfl
theorem cells68 : Tryd.prog.cellsOf 68 = 4 := by kernel_rfl
theorem four {α : Type} {l : List α} (h : l.length = 4) : ∃ a b c d, l = [a, b, c, d] := by
  match l, h with
  | [a, b, c, d], _ => exact ⟨a, b, c, d, rfl⟩
/-- One act, out of its four cells. -/
theorem open_act {fuel : Nat} {cs : List Value} {x : DataW H × List MemPlace} (h : DataW.trod enc Tryd.prog w 0 (fun _ => true) held fuel 68 cs = some x) :
    ∃ s : S68, cs = [.int .i64 s.f0, .int .i64 s.f1, .int .i64 s.f2, .string s.f3] := by
  obtain ⟨xs, n, _, _, hlen, hxl, hf⟩ := DataW.trod_struct Tryd.underlying68 h
  rw [cells68] at hlen
  obtain ⟨c0, c1, c2, c3, rfl⟩ := four hlen
  obtain ⟨y0, y1, y2, y3, rfl⟩ := four (show xs.length = 4 from hxl)
  have g0 : DataW.trod enc Tryd.prog w 0 (fun _ => true) held n 3 (([c0, c1, c2, c3].drop 0).take (Tryd.prog.cellsOf 3)) = some y0 := hf 0 _ rfl
  have g1 : DataW.trod enc Tryd.prog w 0 (fun _ => true) held n 3 (([c0, c1, c2, c3].drop 1).take (Tryd.prog.cellsOf 3)) = some y1 := hf 1 _ rfl
  have g2 : DataW.trod enc Tryd.prog w 0 (fun _ => true) held n 3 (([c0, c1, c2, c3].drop 2).take (Tryd.prog.cellsOf 3)) = some y2 := hf 2 _ rfl
  have g3 : DataW.trod enc Tryd.prog w 0 (fun _ => true) held n 9 (([c0, c1, c2, c3].drop 3).take (Tryd.prog.cellsOf 9)) = some y3 := hf 3 _ rfl
  rw [cells3] at g0 g1 g2
  rw [cells9] at g3
  clear hf h
  obtain ⟨n0, h0, _⟩ := DataW.trod_int Tryd.underlying3 g0
  obtain ⟨n1, h1, _⟩ := DataW.trod_int Tryd.underlying3 g1
  obtain ⟨n2, h2, _⟩ := DataW.trod_int Tryd.underlying3 g2
  obtain ⟨s3, h3, _⟩ := DataW.trod_string Tryd.underlying9 g3
  obtain rfl : c0 = .int .i64 n0 := by simpa using h0
  obtain rfl : c1 = .int .i64 n1 := by simpa using h1
  obtain rfl : c2 = .int .i64 n2 := by simpa using h2
  obtain rfl : c3 = .string s3 := by simpa using h3
  exact ⟨⟨n0, n1, n2, s3⟩, rfl⟩
theorem acts_none (w : World) : Kd.C k68 w none ([] : List S68).length [] := ⟨rfl, by simp, fun h => absurd h (by simp)⟩
/-- A slice of acts, as it came in. -/
theorem open_acts {fuel : Nat} {A : Option Addr} {n c : Nat} {x : DataW H × List MemPlace} (h : DataW.trod enc Tryd.prog w 0 (fun _ => true) held fuel 59 [.slice A n c] = some x) :
    ∃ zs : List S68, n = zs.length ∧ Kd.C k68 w A zs.length zs ∧ zs.length ≤ c := by
  rcases open_slice Tryd.underlying59 h with ⟨hcs, _⟩ | ⟨a, len, cap, m, n', D, Pl, hcs, _, hl, hm, hmm, _, hi⟩
  · simp at hcs
    obtain ⟨rfl, rfl, rfl⟩ := hcs
    exact ⟨[], rfl, acts_none w, Nat.le_refl _⟩
  · simp at hcs
    obtain ⟨rfl, rfl, rfl⟩ := hcs
    have hlm : n ≤ m := by rw [hmm]; split <;> omega
    have hone : ∀ i, i < n → ∃ s : S68, ∀ j u, [Value.int .i64 s.f0, .int .i64 s.f1, .int .i64 s.f2, .string s.f3][j]? = some u → w.cell? (a.add (i * 4 + j)) = some u := fun i hin => by
      obtain ⟨cs', hc, ht⟩ := hi i (by omega)
      rw [cells68] at hc
      obtain ⟨s, rfl⟩ := open_act ht
      obtain ⟨_, _, hat⟩ := World.cells?_some hc
      refine ⟨s, fun j u hj => ?_⟩
      have hjl : j < 4 := (List.getElem?_eq_some_iff.1 hj).1
      rw [← Go.Deep.add_add, hat j hjl, hj]
    let f : Nat → S68 := fun i => if h : i < n then (hone i h).choose else z68
    have hfs : ∀ i, i < n → ∀ j u, [Value.int .i64 (f i).f0, .int .i64 (f i).f1, .int .i64 (f i).f2, .string (f i).f3][j]? = some u → w.cell? (a.add (i * 4 + j)) = some u := fun i hin => by
      have e : f i = (hone i hin).choose := dif_pos hin
      rw [e]
      exact (hone i hin).choose_spec
    have hzl : ((List.range n).map f).length = n := by simp
    refine ⟨(List.range n).map f, hzl.symm, ⟨rfl, ?_, fun _ => ⟨a, rfl, fun j p hj => ?_⟩⟩, by rw [hzl]; exact hl⟩
    · rw [hzl]; exact Nat.le_trans (Nat.le_trans hl hm) (by decide)
    · rw [List.getElem?_map] at hj
      have hjn : j < n := by
        rcases Nat.lt_or_ge j n with h' | h'
        · exact h'
        · rw [List.getElem?_eq_none (by simpa using h')] at hj; cases hj
      rw [List.getElem?_range hjn] at hj
      obtain rfl := Option.some.inj hj
      exact ⟨_, rfl, k68_mk w (f j), fun i u hu => hfs j hjn i u hu⟩
end Go.Proofs.YtcaojgdnhmgmlaaDoor.T
end
