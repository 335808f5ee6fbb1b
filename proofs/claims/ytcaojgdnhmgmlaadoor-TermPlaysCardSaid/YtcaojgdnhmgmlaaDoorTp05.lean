/- term: the term that is there, or one that comes to be. · term: Text, Kdf, Mix, Enc. · term: New; the law's Do. · term, plainly: what the document's acts do is what the program's do. -/
import Derived.Test.YtcaojgdnhmgmlaaDoorTp04
import Derived.Carry
import Derived.Test.YtcaojgdnhmgmlaaDoorPTermPlaysx2
set_option linter.unusedVariables false
set_option linter.unusedSimpArgs false
section
namespace Go.Proofs.YtcaojgdnhmgmlaaDoor.T
open Go.RowKit Go.Proofs.YtcaojgdnhmgmlaaDoor.Q Go.Proofs.YtcaojgdnhmgmlaaDoor.PTermPlays Go.Proofs.YtcaojgdnhmgmlaaDoorW.PrintWords Go.Proofs.YtcaojgdnhmgmlaaDoorW.PrintLast Go.Proofs.YtcaojgdnhmgmlaaDoorW.PrintMore
set_option linter.unusedVariables false

def foundR (xs : List S104) (k : S104) (l : List Int) : List S104 × Int :=
  if l.all (thereB xs.length) = false then (xs, 0) else if 0 < idOf k xs 0 then (xs, idOf k xs 0) else (xs ++ [k], xs.length + 1)
theorem RowsR.step {base : Nat} {F : Nat → Prop} {W W' : World} {tb mp : Nat} {A B : Value} {vs : List S104} {ss : List Int} {at_ : Int} {es : Array MapEntry} {clk : Nat} (h : RowsR base F W tb mp A B vs ss at_ es clk) (hm : ∀ k, F k → k < W.heap.size → W'.heap[k]? = W.heap[k]?) : RowsR base F W' tb mp A B vs ss at_ es clk :=
  ⟨(hm tb h.ft (Array.getElem?_eq_some_iff.1 h.cells).1).trans h.cells, h.ft, h.fm, h.bt, h.bm, h.ne, Kd.R_step h.la (fun k hk hl => hm k hk.1 hl), Kd.R_step h.lb (fun k hk hl => hm k hk.1 hl), (hm mp h.fm (Array.getElem?_eq_some_iff.1 h.map).1).trans h.map⟩
theorem RowsR.more {base : Nat} {F F' : Nat → Prop} {W : World} {tb mp : Nat} {A B : Value} {vs : List S104} {ss : List Int} {at_ : Int} {es : Array MapEntry} {clk : Nat} (h : RowsR base F W tb mp A B vs ss at_ es clk) (hf : ∀ k, F k → F' k) : RowsR base F' W tb mp A B vs ss at_ es clk :=
  ⟨h.cells, hf _ h.ft, hf _ h.fm, h.bt, h.bm, h.ne, Kd.R_mono h.la (fun k hk => ⟨hf k hk.1, hk.2⟩), Kd.R_mono h.lb (fun k hk => ⟨hf k hk.1, hk.2⟩), h.map⟩
theorem RowsR.bound {base : Nat} {F : Nat → Prop} {W : World} {tb mp : Nat} {A B : Value} {vs : List S104} {ss : List Int} {at_ : Int} {es : Array MapEntry} {clk : Nat} (h : RowsR base F W tb mp A B vs ss at_ es clk) : RowsR base (fun k => F k ∧ k < W.heap.size) W tb mp A B vs ss at_ es clk :=
  ⟨h.cells, ⟨h.ft, (Array.getElem?_eq_some_iff.1 h.cells).1⟩, ⟨h.fm, (Array.getElem?_eq_some_iff.1 h.map).1⟩, h.bt, h.bm, h.ne, Kd.R_mono (Kd.R_bound h.la) (fun k hk => ⟨⟨hk.1.1, hk.2.2.1⟩, hk.1.2⟩), Kd.R_mono (Kd.R_bound h.lb) (fun k hk => ⟨⟨hk.1.1, hk.2.2.1⟩, hk.1.2⟩), h.map⟩
theorem RowsR.putM {base : Nat} {F : Nat → Prop} {W : World} {tb mp : Nat} {A B : Value} {vs : List S104} {ss : List Int} {at_ : Int} {es es' : Array MapEntry} {clk clk' : Nat} (h : RowsR base F W tb mp A B vs ss at_ es clk) : RowsR base F (putM W mp es' clk') tb mp A B vs ss at_ es' clk' :=
  ⟨(putM_other W mp es' clk' tb h.ne).trans h.cells, h.ft, h.fm, h.bt, h.bm, h.ne, Kd.R_step h.la (fun k hk _ => putM_other W mp es' clk' k hk.2.2), Kd.R_step h.lb (fun k hk _ => putM_other W mp es' clk' k hk.2.2.1), putM_same W mp es' clk' (Array.getElem?_eq_some_iff.1 h.map).1⟩
theorem TabS.more {base : Nat} {F F' : Nat → Prop} {W : World} {tb mp : Nat} {xs : List S104} (h : TabS base F W tb mp xs) (hf : ∀ k, F k → F' k) : TabS base F' W tb mp xs := by
  obtain ⟨A, B, es, clk, hR, hE⟩ := h
  exact ⟨A, B, es, clk, hR.more hf, hE⟩
theorem TabS.step {base : Nat} {F : Nat → Prop} {W W' : World} {tb mp : Nat} {xs : List S104} (h : TabS base F W tb mp xs) (hm : ∀ k, F k → k < W.heap.size → W'.heap[k]? = W.heap[k]?) : TabS base F W' tb mp xs := by
  obtain ⟨A, B, es, clk, hR, hE⟩ := h
  exact ⟨A, B, es, clk, hR.step hm, hE⟩
theorem idOf_nn (k : S104) : ∀ (xs : List S104) (i : Nat), 0 ≤ idOf k xs i
  | [], i => Int.le_refl _
  | x :: t, i => by
    unfold idOf
    split
    · exact idOf_nn k t (i + 1)
    · split
      · omega
      · exact idOf_nn k t (i + 1)
set_option maxRecDepth 100000 in
set_option maxHeartbeats 2000000 in
theorem found_calls (base : Nat) (F : Nat → Prop) (w : World) (tb mp : Nat) (xs : List S104) (hT : TabS base F w tb mp xs) (hn : xs.length < 100000) (k : S104) (hk1 : k.f0 ≠ 1) (P : Option Addr) (cP : Nat) (l : List Int) (hl : l.length < 100000) (hP : Kd.C (Kd.int .i64) w P l.length l)
    (hsz : szP (szs xs) l 1 = szNode (szs xs) k) :
    Calls Tryd.prog 110 #[.pointer (some ⟨tb, 0, none⟩), .agg #[.int .i64 k.f0, .int .i64 k.f1, .int .i64 k.f2, .string k.f3], nodeV k, .slice P l.length cP] w fun e w' => e = .returned (.int .i64 (foundR xs k l).2) ∧ TabS base (fun k => F k ∨ w.heap.size ≤ k) w' tb mp (foundR xs k l).1 ∧ Quiet w w' ∧ ∀ k, k < w.heap.size → ¬ F k → w'.heap[k]? = w.heap[k]? := by
  obtain ⟨A, B, es, clk, hR, hE⟩ := id hT
  obtain ⟨At, ca, rfl, hac, hA⟩ := Kd.R_reads hR.la
  have ht := tab_cell hR.cells 0
  have hwk : Below w.heap.size w (w.alloc (.cells #[.int .i64 k.f0, .int .i64 k.f1, .int .i64 k.f2, .string k.f3] 129)) := (Below.refl w.heap.size w).alloc (Nat.le_refl _) _
  have hbx := heap_alloc_new w (.cells #[.int .i64 k.f0, .int .i64 k.f1, .int .i64 k.f2, .string k.f3] 129)
  have HT : Aside0 (Calls Tryd.prog 112 #[.pointer (some ⟨tb, 0, none⟩), .slice P l.length cP] (w.alloc (.cells #[.int .i64 k.f0, .int .i64 k.f1, .int .i64 k.f2, .string k.f3] 129)) fun e w' => e = .returned (.bool (l.all (thereB xs.length))) ∧ Below w.heap.size w w' ∧ w'.heap[w.heap.size]? = some (.cells #[.int .i64 k.f0, .int .i64 k.f1, .int .i64 k.f2, .string k.f3] 129 (0, 0))) :=
    ⟨(there_calls P cP l _ tb At xs.length ca (below_cell hwk ht) (Kd.C_below hP hwk) (by omega)).mono fun e w' ⟨h1, h2⟩ => ⟨h1, below_step hwk h2, (h2.block _ (Array.getElem?_eq_some_iff.1 hbx).1).trans hbx⟩⟩
  obtain ⟨nt, nv, hnd⟩ : ∃ t v, nodeV k = .iface t v := by
    unfold nodeV
    split; exact ⟨_, _, rfl⟩; split; exact ⟨_, _, rfl⟩; split; exact ⟨_, _, rfl⟩; split <;> exact ⟨_, _, rfl⟩
  unfold foundR
  cases hq : l.all (thereB xs.length)
  · rw [hq] at HT
    rw [if_pos rfl]
    have HT0 := Aside0.mk hT
    rw [hnd]
    clear hT hR hE hA ht hP hsz hnd hq hac hwk hbx
    go_enter Tryd.func110, Tryd.ntmps110
    go_wp2_with fail
    refine HT.out.mono ?_
    rintro e w1 ⟨rfl, hb, hbox⟩
    have HB := Aside0.mk hb
    clear hb
    go_wp2_with fail
    go_ret
    exact ⟨rfl, (HT0.out.step (fun k _ hl => HB.out.block k hl)).more (fun _ h => .inl h), Quiet.of_below HB.out, fun k hk _ => HB.out.block k hk⟩
  · rw [hq] at HT
    rw [if_neg (by decide)]
    have HLK := Aside0.mk (fun W (hb : Below w.heap.size w W) => lookup_run k W mp xs es clk ((hb.block mp (Array.getElem?_eq_some_iff.1 hR.map).1).trans hR.map) hE)
    have hcm := tab_cell hR.cells 2
    by_cases h0 : 0 < idOf k xs 0
    · rw [if_pos h0]
      have HT0 := Aside0.mk hT
      rw [hnd]
      rw [decide_eq_true h0] at HLK
      have HCM := Aside0.mk hcm
      generalize idOf k xs 0 = r at HLK h0 ⊢
      clear hT hR hE hA ht hP hsz hnd hq hac hcm h0 hwk hbx
      go_enter Tryd.func110, Tryd.ntmps110
      go_wp2_with fail
      refine HT.out.mono ?_
      rintro e w1 ⟨rfl, hb, hbox⟩
      have hcm : w1.cell? ⟨tb, 2, none⟩ = some (.map (some mp)) := below_cell hb HCM.out
      have hlk := HLK.out w1.drew (below_drew hb)
      unfold keyV at hlk
      have hb0 : w1.cell? ⟨w.heap.size, 0, none⟩ = some (.int .i64 k.f0) := by unfold World.cell?; rw [hbox]; rfl
      have hb1 : w1.cell? ⟨w.heap.size, 1, none⟩ = some (.int .i64 k.f1) := by unfold World.cell?; rw [hbox]; rfl
      have hb2 : w1.cell? ⟨w.heap.size, 2, none⟩ = some (.int .i64 k.f2) := by unfold World.cell?; rw [hbox]; rfl
      have hb3 : w1.cell? ⟨w.heap.size, 3, none⟩ = some (.string k.f3) := by unfold World.cell?; rw [hbox]; rfl
      have HS := Aside0.mk (And.intro hcm (And.intro hb0 (And.intro hb1 (And.intro hb2 (And.intro hb3 hlk)))))
      clear hb0 hb1 hb2 hb3
      have HB := Aside0.mk hb
      clear hb HLK
      go_wp2_with fail
      go_region_held3 (fun w' => w'.cell? ⟨tb, 2, none⟩ = some (.map (some mp)) ∧ w'.cell? ⟨w.heap.size, 0, none⟩ = some (.int .i64 k.f0) ∧ w'.cell? ⟨w.heap.size, 1, none⟩ = some (.int .i64 k.f1) ∧ w'.cell? ⟨w.heap.size, 2, none⟩ = some (.int .i64 k.f2) ∧ w'.cell? ⟨w.heap.size, 3, none⟩ = some (.string k.f3) ∧ (Instr.lookup 96 (.map (some mp)) (.agg #[.int .i64 k.f0, .int .i64 k.f1, .int .i64 k.f2, .string k.f3]) true).run Tryd.prog w' = .ok (.tuple #[.int .i64 r, .bool true]) w') (first | exact HS.out | (go_split_ands; refine ⟨?_, ?_, ?_, ?_, ?_, ?_⟩ <;> assumption)) (fail)
      have HB2 := Aside0.mk (below_drew HB.out)
      go_wp2_with fail
      go_ret
      exact ⟨rfl, (HT0.out.step (fun k _ hl => HB2.out.block k hl)).more (fun _ h => Or.inl h), Quiet.of_below HB2.out, fun k hk _ => HB2.out.block k hk⟩
    · rw [if_neg h0]
      have HT0 := Aside0.mk hT
      rw [hnd]
      have h00 : idOf k xs 0 = 0 := by have := idOf_nn k xs 0; omega
      rw [decide_eq_false h0, h00] at HLK
      have HPUT := Aside0.mk (fun W (hb : Below w.heap.size w W) => put_calls base (fun k => F k ∧ k < w.heap.size) W tb mp _ _ xs (szs xs) (atomsN xs) es clk (hR.bound.step (fun k _ hl => hb.block k hl)) (szs_length xs) hn (szs_bounds _ xs rfl) k P cP l hl (Kd.C_below hP hb) hq)
      rw [hsz, ← szs_snoc, hnd] at HPUT
      have HUP := Aside0.mk (fun W (hm : W.heap[mp]? = some (.map es clk)) => update_run k (.int .i64 ((xs.length : Int) + 1)) W mp xs es clk hm hE h00)
      unfold keyV at HUP
      have HE := Aside0.mk hE
      have HAT := Aside0.mk (atomsN_snoc xs k)
      have HPR := Aside0.mk (pairs_snoc xs 0 k)
      have HK1 := Aside0.mk hk1
      have HCM := Aside0.mk hcm
      clear hT hR hE hA ht hP hsz hnd hq hac hcm h0 h00 hk1 hwk hbx
      go_enter Tryd.func110, Tryd.ntmps110
      go_wp2_with fail
      refine HT.out.mono ?_
      rintro e w1 ⟨rfl, hb, hbox⟩
      have hcm : w1.cell? ⟨tb, 2, none⟩ = some (.map (some mp)) := below_cell hb HCM.out
      have hlk := HLK.out w1.drew (below_drew hb)
      unfold keyV at hlk
      have hb0 : w1.cell? ⟨w.heap.size, 0, none⟩ = some (.int .i64 k.f0) := by unfold World.cell?; rw [hbox]; rfl
      have hb1 : w1.cell? ⟨w.heap.size, 1, none⟩ = some (.int .i64 k.f1) := by unfold World.cell?; rw [hbox]; rfl
      have hb2 : w1.cell? ⟨w.heap.size, 2, none⟩ = some (.int .i64 k.f2) := by unfold World.cell?; rw [hbox]; rfl
      have hb3 : w1.cell? ⟨w.heap.size, 3, none⟩ = some (.string k.f3) := by unfold World.cell?; rw [hbox]; rfl
      have HS := Aside0.mk (And.intro hcm (And.intro hb0 (And.intro hb1 (And.intro hb2 (And.intro hb3 hlk)))))
      clear hb0 hb1 hb2 hb3
      have HB := Aside0.mk hb
      clear hb HLK
      go_wp2_with fail
      go_region_held3 (fun w' => w'.cell? ⟨tb, 2, none⟩ = some (.map (some mp)) ∧ w'.cell? ⟨w.heap.size, 0, none⟩ = some (.int .i64 k.f0) ∧ w'.cell? ⟨w.heap.size, 1, none⟩ = some (.int .i64 k.f1) ∧ w'.cell? ⟨w.heap.size, 2, none⟩ = some (.int .i64 k.f2) ∧ w'.cell? ⟨w.heap.size, 3, none⟩ = some (.string k.f3) ∧ (Instr.lookup 96 (.map (some mp)) (.agg #[.int .i64 k.f0, .int .i64 k.f1, .int .i64 k.f2, .string k.f3]) true).run Tryd.prog w' = .ok (.tuple #[.int .i64 0, .bool false]) w') (first | exact HS.out | (go_split_ands; refine ⟨?_, ?_, ?_, ?_, ?_, ?_⟩ <;> assumption)) (fail)
      have HB2 := Aside0.mk (below_drew HB.out)
      go_wp2_with fail
      refine (HPUT.out _ HB2.out).mono ?_
      rintro e w2 ⟨A', B', rfl, hR2, hs2, hk2⟩
      have hbox2 := (hk2 w.heap.size (Array.getElem?_eq_some_iff.1 hbox).1 (fun h => by omega)).trans hbox
      have hcm2 : w2.cell? ⟨tb, 2, none⟩ = some (.map (some mp)) := tab_cell hR2.cells 2
      have HQ := Aside0.mk (And.intro hR2 (And.intro hs2 hk2))
      have hup := HUP.out w2.drew hR2.map
      have hc0 : w2.cell? ⟨w.heap.size, 0, none⟩ = some (.int .i64 k.f0) := by unfold World.cell?; rw [hbox2]; rfl
      have hc1 : w2.cell? ⟨w.heap.size, 1, none⟩ = some (.int .i64 k.f1) := by unfold World.cell?; rw [hbox2]; rfl
      have hc2 : w2.cell? ⟨w.heap.size, 2, none⟩ = some (.int .i64 k.f2) := by unfold World.cell?; rw [hbox2]; rfl
      have hc3 : w2.cell? ⟨w.heap.size, 3, none⟩ = some (.string k.f3) := by unfold World.cell?; rw [hbox2]; rfl
      clear hR2 hs2 hk2 hbox hcm hlk hbox2
      have hfin : TabS base (fun k => F k ∨ w.heap.size ≤ k) (putM w2.drew mp (es.push ⟨.agg #[.int .i64 k.f0, .int .i64 k.f1, .int .i64 k.f2, .string k.f3], .int .i64 ((xs.length : Int) + 1), clk⟩) (clk + 1)) tb mp (xs ++ [k]) := by
        refine ⟨A', B', es.push ⟨.agg #[.int .i64 k.f0, .int .i64 k.f1, .int .i64 k.f2, .string k.f3], .int .i64 ((xs.length : Int) + 1), clk⟩, clk + 1, ?_, ?_⟩
        rotate_left
        · rw [Array.toList_push, List.map_append, HE.out, HPR.out, if_neg HK1.out]
          simp [keyV]
        · rw [HAT.out, if_neg HK1.out, Int.add_zero]
          exact (RowsR.putM (W := w2.drew) (HQ.out.1.step (fun _ _ _ => rfl))).more (fun k hk => hk.elim (fun h => Or.inl h.1) (fun h => Or.inr (Nat.le_trans HB2.out.size h)))
      have HFIN := Aside0.mk hfin
      have HMF := Aside0.mk HQ.out.1.fm
      clear hfin
      go_wp2_with fail
      go_region
      all_goals
        go_wp2_with fail
        go_ret
        exact ⟨rfl, HFIN.out, (Quiet.of_below HB2.out).trans (HQ.out.2.1.trans ⟨rfl, rfl, rfl, by rw [putM_size]; exact Nat.le_refl _⟩), fun j hj hf => (putM_other _ _ _ _ j (fun e => (HMF.out.elim (fun h => hf (e ▸ h.1)) (fun h => by have := HB2.out.size; omega)))).trans ((HQ.out.2.2 j (Nat.lt_of_lt_of_le hj HB2.out.size) (fun h => hf h.1)).trans (HB2.out.block j hj))⟩
end Go.Proofs.YtcaojgdnhmgmlaaDoor.T
end
section
namespace Go.Proofs.YtcaojgdnhmgmlaaDoor.T
open Go.RowKit Go.Proofs.YtcaojgdnhmgmlaaDoor.Q Go.Proofs.YtcaojgdnhmgmlaaDoor.PTermPlays Go.Proofs.YtcaojgdnhmgmlaaDoorW.PrintWords Go.Proofs.YtcaojgdnhmgmlaaDoorW.PrintLast Go.Proofs.YtcaojgdnhmgmlaaDoorW.PrintMore
set_option linter.unusedVariables false

/-- What a call that makes a term leaves behind. -/
def Made (base : Nat) (F : Nat → Prop) (w w' : World) (tb mp : Nat) (xs : List S104) : Prop :=
  TabS base (fun k => F k ∨ w.heap.size ≤ k) w' tb mp xs ∧ Quiet w w' ∧ ∀ k, k < w.heap.size → ¬ F k → w'.heap[k]? = w.heap[k]?
theorem Made.of_alloc {base : Nat} {F : Nat → Prop} {w w' : World} {tb mp : Nat} {xs : List S104} {o : Obj} (h : Made base F (w.alloc o) w' tb mp xs) : Made base F w w' tb mp xs := by
  have hs : (w.alloc o).heap.size = w.heap.size + 1 := World.size_alloc _ _
  refine ⟨h.1.more (fun k hk => hk.imp id (fun h => by omega)), (Quiet.of_below (Below.refl w.heap.size w |>.alloc (Nat.le_refl _) o)).trans h.2.1, fun k hk hf => (h.2.2 k (by omega) hf).trans (Below.heap_alloc w o k hk)⟩
theorem TabS.alloc {base : Nat} {F : Nat → Prop} {w : World} {tb mp : Nat} {xs : List S104} (h : TabS base F w tb mp xs) (o : Obj) : TabS base F (w.alloc o) tb mp xs := h.step (fun k _ hl => Below.heap_alloc w o k hl)
set_option maxRecDepth 100000 in
set_option maxHeartbeats 1000000 in
theorem text_calls (base : Nat) (F : Nat → Prop) (w : World) (tb mp : Nat) (xs : List S104) (hT : TabS base F w tb mp xs) (hn : xs.length < 100000) (s : ByteArray) :
    Calls Tryd.prog 81 #[.pointer (some ⟨tb, 0, none⟩), .string s] w fun e w' => e = .returned (.int .i64 (foundR xs ⟨2, 0, 0, s, 0⟩ []).2) ∧ Made base F w w' tb mp (foundR xs ⟨2, 0, 0, s, 0⟩ []).1 := by
  have h := found_calls base F w tb mp xs hT hn ⟨2, 0, 0, s, 0⟩ (show (2 : Int) ≠ 1 by decide) none 0 [] (by simp) (row0 _) (by simp [szP, szNode])
  rw [node2 rfl] at h
  have HF := Aside0.mk h
  clear h hT
  generalize foundR xs ⟨2, 0, 0, s, 0⟩ [] = r at HF ⊢
  go_enter Tryd.func81, Tryd.ntmps81
  go_wp2_with fail
  refine HF.out.mono ?_
  rintro e w1 ⟨rfl, h⟩
  have HH := Aside0.mk h
  clear h
  go_wp2_with fail
  go_ret
  exact ⟨rfl, HH.out⟩
set_option maxRecDepth 100000 in
set_option maxHeartbeats 1000000 in
theorem kdf_calls (base : Nat) (F : Nat → Prop) (w : World) (tb mp : Nat) (xs : List S104) (hT : TabS base F w tb mp xs) (hn : xs.length < 100000) (a : Int) (s : ByteArray) :
    Calls Tryd.prog 82 #[.pointer (some ⟨tb, 0, none⟩), .int .i64 a, .string s] w fun e w' => e = .returned (.int .i64 (foundR xs ⟨3, a, 0, s, 0⟩ [a]).2) ∧ Made base F w w' tb mp (foundR xs ⟨3, a, 0, s, 0⟩ [a]).1 := by
  have h := found_calls base F (w.alloc (.cells #[.int .i64 a] 3)) tb mp xs (hT.alloc _) hn ⟨3, a, 0, s, 0⟩ (show (3 : Int) ≠ 1 by decide) (some ⟨w.heap.size, 0, none⟩) 1 [a] (by simp) (row1 w a) (by simp [szP, szNode])
  rw [node3 rfl] at h
  have HF := Aside0.mk h
  clear h hT
  generalize foundR xs ⟨3, a, 0, s, 0⟩ [a] = r at HF ⊢
  go_enter Tryd.func82, Tryd.ntmps82
  go_wp2_with fail
  refine HF.out.mono ?_
  rintro e w1 ⟨rfl, h⟩
  have HH := Aside0.mk (Made.of_alloc h)
  clear h
  go_wp2_with fail
  go_ret
  exact ⟨rfl, HH.out⟩
set_option maxRecDepth 100000 in
set_option maxHeartbeats 1000000 in
theorem mix_calls (base : Nat) (F : Nat → Prop) (w : World) (tb mp : Nat) (xs : List S104) (hT : TabS base F w tb mp xs) (hn : xs.length < 100000) (a b : Int) :
    Calls Tryd.prog 83 #[.pointer (some ⟨tb, 0, none⟩), .int .i64 a, .int .i64 b] w fun e w' => e = .returned (.int .i64 (foundR xs ⟨4, a, b, ⟨#[]⟩, 0⟩ [a, b]).2) ∧ Made base F w w' tb mp (foundR xs ⟨4, a, b, ⟨#[]⟩, 0⟩ [a, b]).1 := by
  have h := found_calls base F (w.alloc (.cells #[.int .i64 a, .int .i64 b] 3)) tb mp xs (hT.alloc _) hn ⟨4, a, b, ⟨#[]⟩, 0⟩ (show (4 : Int) ≠ 1 by decide) (some ⟨w.heap.size, 0, none⟩) 2 [a, b] (by simp) (row2 w a b) (by simp [szP, szNode])
  rw [node4 rfl] at h
  have HF := Aside0.mk h
  clear h hT
  generalize foundR xs ⟨4, a, b, ⟨#[]⟩, 0⟩ [a, b] = r at HF ⊢
  go_enter Tryd.func83, Tryd.ntmps83
  go_wp2_with fail
  refine HF.out.mono ?_
  rintro e w1 ⟨rfl, h⟩
  have HH := Aside0.mk (Made.of_alloc h)
  clear h
  go_wp2_with fail
  go_ret
  exact ⟨rfl, HH.out⟩
set_option maxRecDepth 100000 in
set_option maxHeartbeats 1000000 in
theorem enc_calls (base : Nat) (F : Nat → Prop) (w : World) (tb mp : Nat) (xs : List S104) (hT : TabS base F w tb mp xs) (hn : xs.length < 100000) (a b : Int) :
    Calls Tryd.prog 78 #[.pointer (some ⟨tb, 0, none⟩), .int .i64 a, .int .i64 b] w fun e w' => e = .returned (.int .i64 (foundR xs ⟨5, a, b, ⟨#[]⟩, 0⟩ [a, b]).2) ∧ Made base F w w' tb mp (foundR xs ⟨5, a, b, ⟨#[]⟩, 0⟩ [a, b]).1 := by
  have h := found_calls base F (w.alloc (.cells #[.int .i64 a, .int .i64 b] 3)) tb mp xs (hT.alloc _) hn ⟨5, a, b, ⟨#[]⟩, 0⟩ (show (5 : Int) ≠ 1 by decide) (some ⟨w.heap.size, 0, none⟩) 2 [a, b] (by simp) (row2 w a b) (by simp [szP, szNode])
  rw [node5 rfl] at h
  have HF := Aside0.mk h
  clear h hT
  generalize foundR xs ⟨5, a, b, ⟨#[]⟩, 0⟩ [a, b] = r at HF ⊢
  go_enter Tryd.func78, Tryd.ntmps78
  go_wp2_with fail
  refine HF.out.mono ?_
  rintro e w1 ⟨rfl, h⟩
  have HH := Aside0.mk (Made.of_alloc h)
  clear h
  go_wp2_with fail
  go_ret
  exact ⟨rfl, HH.out⟩
end Go.Proofs.YtcaojgdnhmgmlaaDoor.T
end
section
namespace Go.Proofs.YtcaojgdnhmgmlaaDoor.T
open Go.RowKit Go.Proofs.YtcaojgdnhmgmlaaDoor.Q Go.Proofs.YtcaojgdnhmgmlaaDoor.PTermPlays Go.Proofs.YtcaojgdnhmgmlaaDoorW.PrintWords Go.Proofs.YtcaojgdnhmgmlaaDoorW.PrintLast Go.Proofs.YtcaojgdnhmgmlaaDoorW.PrintMore
set_option linter.unusedVariables false

set_option maxRecDepth 100000 in
set_option maxHeartbeats 1000000 in
theorem new_calls (w : World) : Calls Tryd.prog 47 #[] w fun e w' => ∃ tb mp, e = .returned (.pointer (some ⟨tb, 0, none⟩)) ∧ TabS w.heap.size (fun k => w.heap.size ≤ k) w' tb mp [] ∧ Below w.heap.size w w' := by
  have hmm := @run_makeMap Tryd.prog
  go_enter Tryd.func47, Tryd.ntmps47
  go_wp2_with fail
  go_ret
  have hc := heap_alloc_new (w.alloc (Obj.map #[] 0)) (Obj.cells #[Value.slice none 0 0, Value.slice none 0 0, Value.map (some w.heap.size), Value.int IntKind.i64 0] 100)
  rw [World.size_alloc] at hc
  refine ⟨w.heap.size + 1, w.heap.size, rfl, ⟨.slice none 0 0, .slice none 0 0, #[], 0, ⟨hc, by omega, Nat.le_refl _, by omega, Nat.le_refl _, by omega, Kd.R_nil _ _ _ _ _, Kd.R_nil _ _ _ _ _, (Below.heap_alloc _ _ _ (by rw [World.size_alloc]; omega)).trans (heap_alloc_new w _)⟩, rfl⟩, ba (ba (Below.refl _ _) _) _⟩
/-- What an act does to the terms. -/
def doR (xs : List S104) (x : S68) : List S104 × Int :=
  if x.f0 = 1 then (xs ++ [⟨1, 0, 0, ⟨#[]⟩, atomsN xs⟩], (xs.length : Int) + 1) else if x.f0 = 2 then foundR xs ⟨2, 0, 0, x.f3, 0⟩ [] else if x.f0 = 3 then foundR xs ⟨3, x.f1, 0, x.f3, 0⟩ [x.f1]
  else if x.f0 = 4 then foundR xs ⟨4, x.f1, x.f2, ⟨#[]⟩, 0⟩ [x.f1, x.f2] else foundR xs ⟨5, x.f1, x.f2, ⟨#[]⟩, 0⟩ [x.f1, x.f2]
theorem fd68_0 (a b c : Int) (s : ByteArray) (w : World) : (Instr.field 68 (.agg #[.int .i64 a, .int .i64 b, .int .i64 c, .string s]) 0).run Tryd.prog w = .ok (.int .i64 a) w := by kernel_rfl
theorem fd68_1 (a b c : Int) (s : ByteArray) (w : World) : (Instr.field 68 (.agg #[.int .i64 a, .int .i64 b, .int .i64 c, .string s]) 1).run Tryd.prog w = .ok (.int .i64 b) w := by kernel_rfl
theorem fd68_2 (a b c : Int) (s : ByteArray) (w : World) : (Instr.field 68 (.agg #[.int .i64 a, .int .i64 b, .int .i64 c, .string s]) 2).run Tryd.prog w = .ok (.int .i64 c) w := by kernel_rfl
theorem fd68_3 (a b c : Int) (s : ByteArray) (w : World) : (Instr.field 68 (.agg #[.int .i64 a, .int .i64 b, .int .i64 c, .string s]) 3).run Tryd.prog w = .ok (.string s) w := by kernel_rfl
attribute [local go_sem] fd68_0 fd68_1 fd68_2 fd68_3
set_option maxRecDepth 100000 in
set_option maxHeartbeats 1000000 in
theorem do_calls (base : Nat) (F : Nat → Prop) (w : World) (tb mp : Nat) (xs : List S104) (hT : TabS base F w tb mp xs) (hn : xs.length < 100000) (x : S68) :
    Calls Tryd.prog 49 #[.pointer (some ⟨tb, 0, none⟩), .agg #[.int .i64 x.f0, .int .i64 x.f1, .int .i64 x.f2, .string x.f3]] w fun e w' => e = .returned (.int .i64 (doR xs x).2) ∧ Made base F w w' tb mp (doR xs x).1 := by
  have hTA := hT.alloc (.cells #[.int .i64 x.f0, .int .i64 x.f1, .int .i64 x.f2, .string x.f3] 68)
  by_cases c1 : x.f0 = 1
  · have hd : doR xs x = (xs ++ [⟨1, 0, 0, ⟨#[]⟩, atomsN xs⟩], (xs.length : Int) + 1) := by unfold doR; rw [if_pos c1]
    rw [hd]
    have e1 : (x.f0 == 1) = true := by simpa using c1
    have HF := Aside0.mk (atom_calls base F _ tb mp xs hTA hn)
    clear hT hTA hd c1
    go_enter Tryd.func49, Tryd.ntmps49
    go_wp2_with fail
    refine HF.out.mono ?_
    rintro e w1 ⟨rfl, h⟩
    have HH := Aside0.mk (Made.of_alloc h)
    clear h
    go_wp2_with fail
    go_ret
    exact ⟨rfl, HH.out⟩
  by_cases c2 : x.f0 = 2
  · have hd : doR xs x = foundR xs ⟨2, 0, 0, x.f3, 0⟩ [] := by unfold doR; rw [if_neg c1, if_pos c2]
    rw [hd]
    have e1 : (x.f0 == 1) = false := by simpa using c1
    have e2 : (x.f0 == 2) = true := by simpa using c2
    have HF := Aside0.mk (text_calls base F _ tb mp xs hTA hn x.f3)
    clear hT hTA hd c1 c2
    go_enter Tryd.func49, Tryd.ntmps49
    go_wp2_with fail
    refine HF.out.mono ?_
    rintro e w1 ⟨rfl, h⟩
    have HH := Aside0.mk (Made.of_alloc h)
    clear h
    go_wp2_with fail
    go_ret
    exact ⟨rfl, HH.out⟩
  by_cases c3 : x.f0 = 3
  · have hd : doR xs x = foundR xs ⟨3, x.f1, 0, x.f3, 0⟩ [x.f1] := by unfold doR; rw [if_neg c1, if_neg c2, if_pos c3]
    rw [hd]
    have e1 : (x.f0 == 1) = false := by simpa using c1
    have e2 : (x.f0 == 2) = false := by simpa using c2
    have e3 : (x.f0 == 3) = true := by simpa using c3
    have HF := Aside0.mk (kdf_calls base F _ tb mp xs hTA hn x.f1 x.f3)
    clear hT hTA hd c1 c2 c3
    go_enter Tryd.func49, Tryd.ntmps49
    go_wp2_with fail
    refine HF.out.mono ?_
    rintro e w1 ⟨rfl, h⟩
    have HH := Aside0.mk (Made.of_alloc h)
    clear h
    go_wp2_with fail
    go_ret
    exact ⟨rfl, HH.out⟩
  by_cases c4 : x.f0 = 4
  · have hd : doR xs x = foundR xs ⟨4, x.f1, x.f2, ⟨#[]⟩, 0⟩ [x.f1, x.f2] := by unfold doR; rw [if_neg c1, if_neg c2, if_neg c3, if_pos c4]
    rw [hd]
    have e1 : (x.f0 == 1) = false := by simpa using c1
    have e2 : (x.f0 == 2) = false := by simpa using c2
    have e3 : (x.f0 == 3) = false := by simpa using c3
    have e4 : (x.f0 == 4) = true := by simpa using c4
    have HF := Aside0.mk (mix_calls base F _ tb mp xs hTA hn x.f1 x.f2)
    clear hT hTA hd c1 c2 c3 c4
    go_enter Tryd.func49, Tryd.ntmps49
    go_wp2_with fail
    refine HF.out.mono ?_
    rintro e w1 ⟨rfl, h⟩
    have HH := Aside0.mk (Made.of_alloc h)
    clear h
    go_wp2_with fail
    go_ret
    exact ⟨rfl, HH.out⟩
  have hd : doR xs x = foundR xs ⟨5, x.f1, x.f2, ⟨#[]⟩, 0⟩ [x.f1, x.f2] := by unfold doR; rw [if_neg c1, if_neg c2, if_neg c3, if_neg c4]
  rw [hd]
  have e1 : (x.f0 == 1) = false := by simpa using c1
  have e2 : (x.f0 == 2) = false := by simpa using c2
  have e3 : (x.f0 == 3) = false := by simpa using c3
  have e4 : (x.f0 == 4) = false := by simpa using c4
  have HF := Aside0.mk (enc_calls base F _ tb mp xs hTA hn x.f1 x.f2)
  clear hT hTA hd c1 c2 c3 c4
  go_enter Tryd.func49, Tryd.ntmps49
  go_wp2_with fail
  refine HF.out.mono ?_
  rintro e w1 ⟨rfl, h⟩
  have HH := Aside0.mk (Made.of_alloc h)
  clear h
  go_wp2_with fail
  go_ret
  exact ⟨rfl, HH.out⟩
end Go.Proofs.YtcaojgdnhmgmlaaDoor.T
end
section
namespace Go.Proofs.YtcaojgdnhmgmlaaDoor.T
open Go.RowKit Go.Proofs.YtcaojgdnhmgmlaaDoor.Q Go.Proofs.YtcaojgdnhmgmlaaDoor.PTermPlays Go.Proofs.YtcaojgdnhmgmlaaDoorW.PrintWords Go.Proofs.YtcaojgdnhmgmlaaDoorW.PrintLast
set_option linter.unusedVariables false
theorem rdn (xs : List S104) (i : Nat) (h : i < xs.length) : rd_T104 xs (i : Int) = xs[i] := by
  unfold rd_T104; rw [Int.toNat_natCast, List.getD_eq_getElem?_getD, List.getElem?_eq_getElem h]; rfl
theorem ratom_go (xs : List S104) (hn : xs.length < 100000) : ∀ (j i e : Nat) (n : Int), i + j = xs.length → 0 ≤ n → n ≤ i →
    oublietteref15_Table_Atom.l0 (j + 1 + e) xs n i = some (xs ++ [⟨1, 0, 0, ⟨#[]⟩, n + atomsN (xs.drop i)⟩], (xs.length : Int) + 1)
  | 0, i, e, n, hi, h0, h1 => by
    rw [show 0 + 1 + e = e + 1 by omega, oublietteref15_Table_Atom.l0, if_neg (by omega), if_pos (by omega), List.drop_of_length_le (by omega), show atomsN [] = 0 from rfl, Int.add_zero, show wrap64 ((xs.length : Int) + 1) = (xs.length : Int) + 1 by unfold wrap64; omega]
  | j + 1, i, e, n, hi, h0, h1 => by
    have hil : i < xs.length := by omega
    have hs : atomsN (xs.drop i) = (if (xs[i]).f0 = 1 then 1 else 0) + atomsN (xs.drop (i + 1)) := by
      rw [List.drop_eq_getElem_cons hil]
      unfold atomsN
      by_cases h : xs[i].f0 = 1
      · rw [List.filter_cons_of_pos (by simpa using h), if_pos h]; simp; omega
      · rw [List.filter_cons_of_neg (by simpa using h), if_neg h]; simp
    rw [show j + 1 + 1 + e = (j + 1 + e) + 1 by omega, oublietteref15_Table_Atom.l0, if_pos (by omega), if_pos (by omega), rdn xs i hil, show wrap64 ((i : Int) + 1) = ((i + 1 : Nat) : Int) by unfold wrap64; omega, hs]
    by_cases h : xs[i].f0 = 1
    · rw [if_pos h, if_pos h, show wrap64 (n + 1) = n + 1 by unfold wrap64; omega, ratom_go xs hn j (i + 1) e (n + 1) (by omega) (by omega) (by omega), Int.add_assoc]
    · rw [if_neg h, if_neg h, ratom_go xs hn j (i + 1) e n (by omega) h0 (by omega), Int.zero_add]
theorem ratom_eq (xs : List S104) (hn : xs.length < 100000) (k : Nat) (hk : xs.length + 1 ≤ k) : oublietteref15_Table_Atom.f k xs = some (xs ++ [⟨1, 0, 0, ⟨#[]⟩, atomsN xs⟩], (xs.length : Int) + 1) := by
  obtain ⟨e, rfl⟩ : ∃ e, k = xs.length + 1 + e := ⟨k - xs.length - 1, by omega⟩
  have h := ratom_go xs hn xs.length 0 e 0 (by omega) (by omega) (by omega)
  rw [List.drop_zero, Int.zero_add] at h
  exact h
/-- Terms that are no atoms have no number; atoms no parts. -/
structure Good (xs : List S104) : Prop where
  kind : ∀ x ∈ xs, 1 ≤ x.f0 ∧ x.f0 ≤ 5
  num : ∀ x ∈ xs, x.f0 ≠ 1 → x.f4 = 0
theorem rput_go (xs : List S104) (hn : xs.length < 100000) (hg : Good xs) (k : S104) (hk : k.f0 ≠ 1) (hk4 : k.f4 = 0) : ∀ (j i e : Nat), i + j = xs.length →
    oublietteref15_Table_Put.l0 (j + 1 + e) xs i k.f0 k.f1 k.f2 k.f3 0 = some (if 0 < idOf k (xs.drop i) i then (xs, idOf k (xs.drop i) i) else (xs ++ [k], (xs.length : Int) + 1))
  | 0, i, e, hi => by
    have hkk : (⟨k.f0, k.f1, k.f2, k.f3, 0⟩ : S104) = k := by cases k; cases hk4; rfl
    rw [show 0 + 1 + e = e + 1 by omega, oublietteref15_Table_Put.l0, if_neg (by omega), if_pos (by omega), List.drop_of_length_le (by omega), show idOf k [] i = 0 from rfl, if_neg (by omega), show wrap64 ((xs.length : Int) + 1) = (xs.length : Int) + 1 by unfold wrap64; omega, hkk]
  | j + 1, i, e, hi => by
    have hil : i < xs.length := by omega
    have hm := List.getElem_mem hil
    rw [show j + 1 + 1 + e = (j + 1 + e) + 1 by omega, oublietteref15_Table_Put.l0, if_pos (by omega), if_pos (by omega), rdn xs i hil, show wrap64 ((i : Int) + 1) = ((i + 1 : Nat) : Int) by unfold wrap64; omega, List.drop_eq_getElem_cons hil, idOf]
    have h4 := hg.num _ hm
    generalize xs[i] = x at hm h4 ⊢
    by_cases h1 : x.f0 = 1
    · rw [if_pos h1, if_neg, rput_go xs hn hg k hk hk4 j (i + 1) e (by omega)]
      intro h
      simp only [Bool.and_eq_true, beq_iff_eq] at h
      exact hk (by rw [← h.1, h1])
    · rw [if_neg h1]
      have hc : (x.f0 == k.f0 && (x.f1 == k.f1 && (x.f2 == k.f2 && (x.f3.toList == k.f3.toList && (x.f4 == 0))))) = sameK k x := by
        rw [h4 h1]
        unfold sameK
        rw [Bool.eq_iff_iff]
        simp only [Bool.and_eq_true, beq_iff_eq]
        constructor
        · rintro ⟨a, b, c, d, _⟩; exact ⟨a.symm, b.symm, c.symm, d.symm⟩
        · rintro ⟨a, b, c, d⟩; exact ⟨a.symm, b.symm, c.symm, d.symm, trivial⟩
      rw [hc]
      by_cases hs : sameK k x = true
      · rw [if_pos hs, if_pos hs, if_pos (by omega)]
        congr 2
      · rw [if_neg hs, if_neg hs, rput_go xs hn hg k hk hk4 j (i + 1) e (by omega)]
theorem rthere_eq (xs : List S104) (a : Int) : oublietteref15_Table_there.f xs a = some (thereB xs.length a) := by
  unfold oublietteref15_Table_there.f thereB
  by_cases h : a ≥ 1
  · rw [if_pos h, decide_eq_true (show 1 ≤ a from h), Bool.true_and]
  · rw [if_neg h, decide_eq_false (show ¬ 1 ≤ a from h), Bool.false_and]
theorem rj0_yes (xs : List S104) (hn : xs.length < 100000) (hg : Good xs) (c : S104) (hk : c.f0 ≠ 1) (hk4 : c.f4 = 0) (k : Nat) (hkk : xs.length + 2 ≤ k) :
    oublietteref15_Table_Put.j0 k xs false c.f0 c.f1 c.f2 c.f3 0 = some (if 0 < idOf c xs 0 then (xs, idOf c xs 0) else (xs ++ [c], (xs.length : Int) + 1)) := by
  obtain ⟨e, rfl⟩ : ∃ e, k = (xs.length + 1 + e) + 1 := ⟨k - xs.length - 2, by omega⟩
  rw [oublietteref15_Table_Put.j0, if_neg (by decide)]
  exact rput_go xs hn hg c hk hk4 xs.length 0 e (by omega)
theorem rj0_no (xs : List S104) (a b c : Int) (s : ByteArray) (d : Int) (k : Nat) (hk : 1 ≤ k) : oublietteref15_Table_Put.j0 k xs true a b c s d = some (xs, 0) := by
  obtain ⟨e, rfl⟩ : ∃ e, k = e + 1 := ⟨k - 1, by omega⟩
  rw [oublietteref15_Table_Put.j0, if_pos rfl]
theorem rput2 (xs : List S104) (hn : xs.length < 100000) (hg : Good xs) (s : ByteArray) (k : Nat) (hk : xs.length + 2 ≤ k) : oublietteref15_Table_Put.f k xs 2 0 0 s 0 = some (foundR xs ⟨2, 0, 0, s, 0⟩ []) := by
  unfold oublietteref15_Table_Put.f foundR
  rw [if_neg (by decide), if_neg (by decide), if_neg (by simp)]
  exact rj0_yes xs hn hg ⟨2, 0, 0, s, 0⟩ (show (2 : Int) ≠ 1 by decide) rfl k hk
theorem rput3 (xs : List S104) (hn : xs.length < 100000) (hg : Good xs) (a : Int) (s : ByteArray) (k : Nat) (hk : xs.length + 2 ≤ k) : oublietteref15_Table_Put.f k xs 3 a 0 s 0 = some (foundR xs ⟨3, a, 0, s, 0⟩ [a]) := by
  unfold oublietteref15_Table_Put.f foundR
  rw [if_pos (by decide), rthere_eq, Option.bind_some]
  cases h : thereB xs.length a
  · rw [if_neg (by decide), if_pos (by simp [h])]
    exact rj0_no xs 3 a 0 s 0 k (by omega)
  · rw [if_pos rfl, if_neg (by decide), if_neg (by simp [h])]
    exact rj0_yes xs hn hg ⟨3, a, 0, s, 0⟩ (show (3 : Int) ≠ 1 by decide) rfl k hk
theorem rput45 (xs : List S104) (hn : xs.length < 100000) (hg : Good xs) (q a b : Int) (hq : q = 4 ∨ q = 5) (k : Nat) (hk : xs.length + 2 ≤ k) : oublietteref15_Table_Put.f k xs q a b ⟨#[]⟩ 0 = some (foundR xs ⟨q, a, b, ⟨#[]⟩, 0⟩ [a, b]) := by
  unfold oublietteref15_Table_Put.f foundR
  rw [if_pos (by omega), rthere_eq, Option.bind_some]
  cases h : thereB xs.length a
  · rw [if_neg (by decide), if_pos (by simp [h])]
    exact rj0_no xs q a b ⟨#[]⟩ 0 k (by omega)
  · rw [if_pos rfl, if_pos (by omega), rthere_eq, Option.bind_some]
    cases h2 : thereB xs.length b
    · rw [if_pos (by simp [h, h2])]
      exact rj0_no xs q a b ⟨#[]⟩ 0 k (by omega)
    · rw [if_neg (by simp [h, h2])]
      exact rj0_yes xs hn hg ⟨q, a, b, ⟨#[]⟩, 0⟩ (show q ≠ 1 by omega) rfl k hk
/-- What the document does at an act is what the program does. -/
theorem rof_eq (xs : List S104) (hn : xs.length < 100000) (hg : Good xs) (x : S68) (k : Nat) (hk : xs.length + 2 ≤ k) : oubliettelaw15_Of.f k xs x.f0 x.f1 x.f2 x.f3 = some (doR xs x) := by
  unfold oubliettelaw15_Of.f doR
  by_cases h1 : x.f0 = 1
  · rw [if_pos h1, if_pos h1, ratom_eq xs hn k (by omega)]; rfl
  rw [if_neg h1, if_neg h1]
  by_cases h2 : x.f0 = 2
  · rw [if_pos h2, if_pos h2, rput2 xs hn hg x.f3 k hk]; rfl
  rw [if_neg h2, if_neg h2]
  by_cases h3 : x.f0 = 3
  · rw [if_pos h3, if_pos h3, rput3 xs hn hg x.f1 x.f3 k hk]; rfl
  rw [if_neg h3, if_neg h3]
  by_cases h4 : x.f0 = 4
  · rw [if_pos h4, if_pos h4, rput45 xs hn hg 4 x.f1 x.f2 (.inl rfl) k hk]; rfl
  rw [if_neg h4, if_neg h4, rput45 xs hn hg 5 x.f1 x.f2 (.inr rfl) k hk]; rfl
end Go.Proofs.YtcaojgdnhmgmlaaDoor.T
end
