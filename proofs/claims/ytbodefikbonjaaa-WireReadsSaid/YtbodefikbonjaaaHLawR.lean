/- WireReads, by hand: what is read of any bytes is, field for field, the document's. -/
import Derived.Test.YtbodefikbonjaaaTakeRd
import Derived.Deep.RegionHeld3
namespace Go.Proofs.Ytbodefikbonjaaa.Q
open Go.RowKit Go.Proofs.YtbodefikbonjaaaW.PrintWords Go.Proofs.YtbodefikbonjaaaW.PrintLast Go.Proofs.YtbodefikbonjaaaW.PrintMore
set_option linter.unusedVariables false
set_option linter.unusedSimpArgs false

/-- A fault, or none. -/
def flt (wh : Bool) : Int := if wh then 0 else 4
/-- The state where a field is read: what was wanted, what is left. -/
structure Mid (w wc : World) (g N q : Nat) (k s : Int) (lb : List Int) (f : Int) (x : S47) (A3 : Option Addr) (c3 : Nat) (wh2 : Bool) (A2 : Option Addr) (c2 : Nat) (lb2 : List Int) : Prop where
  blk : wc.heap[q]? = some (.cells #[.int .i64 x.f0, .int .i64 x.f1, .int .u64 x.f2, .slice A3 x.f3.length c3] 47 (0, 0))
  row3 : Kd.C (Kd.int .u8) w A3 x.f3.length x.f3
  cap3 : x.f3.length ≤ c3
  u3 : ∀ b ∈ x.f3, 0 ≤ b ∧ b < 256
  ok : rdOk k s lb f x = true
  nx : nxt k s lb f = (lb2, flt wh2)
  row2 : Kd.C (Kd.int .u8) w A2 lb2.length lb2
  cap2 : lb2.length ≤ c2
  len2 : lb2.length ≤ 300
  u2 : u8L lb2
  nil2 : wh2 = false → lb2 = []
  rd : ∃ Ar cr, RdV wc g N Ar cr lb f
  old : N ≤ q
  bel : Below w.heap.size w wc

theorem bcell {W w1 : World} (hb : Below W.heap.size W w1) : (∀ b o, b < W.heap.size → w1.cell? ⟨b, o, none⟩ = W.cell? ⟨b, o, none⟩) ∧ (∀ b o, b < W.heap.size → w1.frozen? ⟨b, o, none⟩ = W.frozen? ⟨b, o, none⟩) :=
  ⟨fun b o h => hb.cell (p := ⟨b, o, none⟩) h, fun b o h => hb.frozen (p := ⟨b, o, none⟩) h⟩

/-- A field taken, in a block of its own. -/
structure GotF (W1 wc : World) (qf : Nat) (A : Option Addr) (lb : List Int) (A3 : Option Addr) (c3 : Nat) (R : S47 × Int × Bool) : Prop where
  blk : wc.heap[qf]? = some (.cells #[.int .i64 R.1.f0, .int .i64 R.1.f1, .int .u64 R.1.f2, .slice A3 R.1.f3.length c3] 47 (0, 0))
  new : W1.heap.size ≤ qf
  bel : Below W1.heap.size W1 wc
  cap : R.1.f3.length ≤ c3
  row : ∀ W : World, Kd.C (Kd.int .u8) W A lb.length lb → Kd.C (Kd.int .u8) W A3 R.1.f3.length R.1.f3

def fCells (x : S47) (A3 : Option Addr) (c3 : Nat) : Array Value := #[.int .i64 x.f0, .int .i64 x.f1, .int .u64 x.f2, .slice A3 x.f3.length c3]
theorem got_A (W1 w5 : World) (A : Option Addr) (lb : List Int) (A3 : Option Addr) (c3 : Nat) (R : S47 × Int × Bool) (hb : Below W1.drew.heap.size W1.drew w5) (hc : R.1.f3.length ≤ c3) (hC : ∀ W : World, Kd.C (Kd.int .u8) W A lb.length lb → Kd.C (Kd.int .u8) W A3 R.1.f3.length R.1.f3) :
    GotF W1 (w5.alloc (.cells #[.int .i64 R.1.f0, .int .i64 R.1.f1, .int .u64 R.1.f2, .slice A3 R.1.f3.length c3] 47)) w5.heap.size A lb A3 c3 R :=
  ⟨heap_alloc_new w5 _, hb.size, below_step (below_step (below_drew (Below.refl _ _)) hb) (below_alloc (Below.refl _ _) _), hc, hC⟩
theorem four_set (w : World) (q : Nat) (a b c d x y z u : Value) (t : TypeId) (h : w.heap[q]? = some (.cells #[a, b, c, d] t (0, 0))) :
    ((((w.setCell ⟨q, 0, none⟩ x).setCell ⟨q, 1, none⟩ y).setCell ⟨q, 2, none⟩ z).setCell ⟨q, 3, none⟩ u).heap[q]? = some (.cells #[x, y, z, u] t (0, 0)) :=
  set_at (set_at (set_at (set_at h 0 x) 1 y) 2 z) 3 u
theorem four_below {w0 w : World} {n : Nat} (h : Below n w0 w) (q : Nat) (hq : n ≤ q) (x y z u : Value) : Below n w0 ((((w.setCell ⟨q, 0, none⟩ x).setCell ⟨q, 1, none⟩ y).setCell ⟨q, 2, none⟩ z).setCell ⟨q, 3, none⟩ u) :=
  (((h.setCell (p := ⟨q, 0, none⟩) hq x).setCell (p := ⟨q, 1, none⟩) hq y).setCell (p := ⟨q, 2, none⟩) hq z).setCell (p := ⟨q, 3, none⟩) hq u
theorem got_B (W1 w5 : World) (a b c d : Value) (A : Option Addr) (lb : List Int) (A3 : Option Addr) (c3 : Nat) (R : S47 × Int × Bool) (hb : Below (W1.alloc (.cells #[a, b, c, d] 47)).drew.heap.size (W1.alloc (.cells #[a, b, c, d] 47)).drew w5) (hc : R.1.f3.length ≤ c3) (hC : ∀ W : World, Kd.C (Kd.int .u8) W A lb.length lb → Kd.C (Kd.int .u8) W A3 R.1.f3.length R.1.f3) :
    GotF W1 ((((w5.setCell ⟨W1.heap.size, 0, none⟩ (.int .i64 R.1.f0)).setCell ⟨W1.heap.size, 1, none⟩ (.int .i64 R.1.f1)).setCell ⟨W1.heap.size, 2, none⟩ (.int .u64 R.1.f2)).setCell ⟨W1.heap.size, 3, none⟩ (.slice A3 R.1.f3.length c3)) W1.heap.size A lb A3 c3 R :=
  ⟨four_set w5 W1.heap.size a b c d _ _ _ _ 47 ((hb.block W1.heap.size (by show W1.heap.size < (W1.alloc _).heap.size; rw [size_alloc]; omega)).trans (heap_alloc_new W1 _)), Nat.le_refl _,
    four_below (below_step (below_drew (below_alloc (Below.refl _ _) _)) hb) _ (Nat.le_refl _) _ _ _ _, hc, hC⟩

/-- The loop's state: what is left of the bytes, for the reader and for the document. -/
structure LoopR (w wr : World) (g : Nat) (wh : Bool) (A : Option Addr) (c : Nat) (lb : List Int) : Prop where
  row : Kd.C (Kd.int .u8) w A lb.length lb
  cap : lb.length ≤ c
  len : lb.length ≤ 300
  u : u8L lb
  nil : wh = false → lb = []
  rd : ∃ N Ar cr, RdV wr g N Ar cr lb (flt wh)
  bel : Below w.heap.size w wr

set_option maxRecDepth 100000 in
set_option maxHeartbeats 4000000 in
theorem reads_calls (A1 : Option Addr) (c1 : Nat) (b0 : List Int) (A0 : Option Addr) (c0 : Nat) (l0 : List S47) (text : Bool) (w : World) (hrb : Kd.C (Kd.int .u8) w A1 b0.length b0) (hcb : b0.length ≤ c1) (hub : u8L b0) (hr0 : Kd.C k47 w A0 l0.length l0) (hc0 : l0.length ≤ c0) (hok : ∀ x ∈ l0, okF x) :
    Calls Try.prog 9 #[.slice A1 b0.length c1, .slice A0 l0.length c0, .bool text] w fun e w' => e = .returned (.bool true) ∧ Below w.heap.size w w' := by
  obtain ⟨b, hb1, hb2⟩ := light_eq l0
  have HLT := Aside0.mk (oubliettelaw05_light.calls (l0.length + 1) A0 c0 l0 b w hr0 hc0 hb1)
  have HR := Aside0.mk hr0
  have HRB := Aside0.mk hrb
  have HCB := Aside0.mk hcb
  have HUB := Aside0.mk hub
  have HOK := Aside0.mk (fun (m : Nat) (h : m < l0.length) => hok (rd_T47 l0 m) (by rw [rd_T l0 m h]; exact List.getElem_mem h))
  clear hr0 hc0 hb1 hok hrb hcb hub
  have hal : ∀ (w1 : World), Below w.heap.size w w1 → Calls Try.prog 29 #[] w1 fun e w' => e = .returned (.bool true) ∧ Below w.heap.size w w' := fun w1 h => (alive_calls w1).mono fun e w' ⟨h1, h2⟩ => ⟨h1, below_step h h2⟩
  have HAL := Aside0.mk hal
  clear hal
  have run : b = false ∨ 300 < b0.length ∨ (b = true ∧ b0.length ≤ 300) := by cases b <;> simp <;> omega
  rcases run with rfl | h3 | ⟨rfl, h3⟩
  · go_enter Try.func9, Try.ntmps9
    go_wp2_with fail
    refine HLT.out.mono ?_
    rintro e w1 ⟨rfl, hd⟩
    have HB1 := Aside0.mk hd.below
    clear hd HLT
    go_wp2_with fail
    refine (HAL.out w1 HB1.out).mono ?_
    rintro e w2 ⟨rfl, hb⟩
    have HB2 := Aside0.mk hb
    clear hb
    go_wp2_with fail
    go_ret
    exact ⟨rfl, HB2.out⟩
  · have e3 : decide ((300 : Int) < b0.length) = true := decide_eq_true (by omega)
    go_enter Try.func9, Try.ntmps9
    go_wp2_with fail
    refine HLT.out.mono ?_
    rintro e w1 ⟨rfl, hd⟩
    have HB1 := Aside0.mk hd.below
    clear hd HLT
    cases b
    all_goals
      go_wp2_with fail
      refine (HAL.out w1 HB1.out).mono ?_
      rintro e w2 ⟨rfl, hb⟩
      have HB2 := Aside0.mk hb
      clear hb
      go_wp2_with fail
      go_ret
      exact ⟨rfl, HB2.out⟩
  · have e3 : decide ((300 : Int) < b0.length) = false := decide_eq_false (by omega)
    have H3 := Aside0.mk h3
    obtain ⟨h40, hlt⟩ := hb2 rfl
    have H40 := Aside0.mk h40
    have HLF := Aside0.mk hlt
    clear hb2 h40 hlt h3
    go_enter Try.func9, Try.ntmps9
    go_wp2_with fail
    refine HLT.out.mono ?_
    rintro e w1 ⟨rfl, hd⟩
    have HB1 := Aside0.mk hd.below
    clear hd HLT
    go_wp2_with fail
    refine (make_calls w1 A1 c1 b0 (Kd.C_below HRB.out HB1.out) HCB.out (by have := H3.out; omega)).mono ?_
    rintro e w2 ⟨g, Ar, cr, rfl, hrd, hb2, hg⟩
    have HRD := Aside0.mk (show ∃ Ar cr, RdV w2 g w2.heap.size Ar cr b0 0 from ⟨Ar, cr, hrd⟩)
    have HB2 := Aside0.mk (below_step HB1.out hb2)
    have HG := Aside0.mk (show w.heap.size ≤ g from Nat.le_trans HB1.out.size hg)
    clear hrd hb2 hg
    go_wp2_with fail
    go_loopg [0, 8, 9] l0.length (fun kq vb vwh vi wr => ∃ (k : Nat) (wh : Bool) (A : Option Addr) (c : Nat) (lb : List Int), vb = .slice A lb.length c ∧ vwh = .bool wh ∧ vi = .int .i64 (k : Int) ∧ Aside0 (k + kq = l0.length) ∧ Aside0 (LoopR w wr g wh A c lb))
    case atStart =>
      obtain ⟨Ar, cr, hrd⟩ := HRD.out
      exact ⟨0, true, A1, c1, b0, rfl, rfl, rfl, ⟨by omega⟩, ⟨⟨HRB.out, HCB.out, H3.out, HUB.out, (fun h => by cases h), ⟨_, Ar, cr, hrd⟩, HB2.out⟩⟩⟩
    case round =>
      obtain ⟨k, wh, A, c, lb, rfl, rfl, rfl, HGK, HL⟩ := hrel
      by_cases hlt : k < l0.length
      · have e1 : decide ((k : Int) < l0.length) = true := decide_eq_true (by omega)
        have q0 : (0 : Int) ≤ k := by omega
        have q1 : (k : Int) < l0.length := by omega
        obtain ⟨ad, A3, c3, ea, hx0, hx1, hx2, hx3, hc3, hC3⟩ := at_T47 HR.out (k : Int) q0 q1
        cases ea
        rw [Int.toNat_natCast] at hx0 hx1 hx2 hx3
        have hbk : ∀ {p : Addr} {u : Value}, w.cell? p = some u → p.block < w.heap.size := fun {p u} h => by
          rcases Nat.lt_or_ge p.block w.heap.size with h' | h'
          · exact h'
          · simp [World.cell?, Array.getElem?_eq_none h'] at h
        have HX := Aside0.mk (fun (W : World) (hW : Below w.heap.size w W) => And.intro ((hW.cell (hbk hx0)).trans hx0) ((hW.cell (hbk hx1)).trans hx1))
        clear hx0 hx1 hx2 hx3 hbk hc3 hC3
        go_upto_if 33 with fail
        go_cut [0, 8, 11, 12, 13] (fun vb vwh v11 v12 v13 wc => ∃ (x : S47) (A3 : Option Addr) (c3 : Nat) (wh2 : Bool) (A2 : Option Addr) (c2 : Nat) (lb2 : List Int), vb = .slice A2 lb2.length c2 ∧ vwh = .bool wh2 ∧ Aside0 (∃ N, Mid w wc g N wr.heap.size (rd_T47 l0 k).f0 (rd_T47 l0 k).f1 lb (flt wh) x A3 c3 wh2 A2 c2 lb2))
        case first =>
          have HBA := Aside0.mk (below_alloc (Below.refl wr.heap.size wr) (.cells #[.int .i64 0, .int .i64 0, .int .u64 0, .slice none 0 0] 47))
          have HBX := Aside0.mk (heap_alloc_new wr (.cells #[.int .i64 0, .int .i64 0, .int .u64 0, .slice none 0 0] 47))
          cases wh
          · go_wp2_with fail
            go_meet
            case rel =>
              obtain rfl := HL.out.nil rfl
              have ho := off_no [] (rd_T47 l0 k).f0 (rd_T47 l0 k).f1
              obtain ⟨N, Ar, cr, hrd⟩ := HL.out.rd
              exact ⟨z47, none, 0, false, A, c, [], rfl, rfl, ⟨N, HBX.out, Kd.C_nil _ _, Nat.le_refl _, by simp [z47], ho.2, ho.1, HL.out.row, HL.out.cap, HL.out.len, HL.out.u, fun _ => rfl, ⟨Ar, cr, hrd.below HBA.out⟩, hrd.hi, below_step HL.out.bel HBA.out⟩⟩
          · obtain ⟨W1, hW1⟩ : ∃ W1, W1 = wr.alloc (.cells #[.int .i64 0, .int .i64 0, .int .u64 0, .slice none 0 0] 47) := ⟨_, rfl⟩
            have HBS := Aside0.mk (show W1.heap.size = wr.heap.size + 1 by rw [hW1, size_alloc])
            rw [← hW1] at HBA HBX ⊢
            clear hW1
            have hx := HX.out W1 (below_step HL.out.bel HBA.out)
            have hx0 := hx.1
            have hx1 := hx.2
            clear hx
            have hxa0 := fun (o : Obj) => (HX.out (W1.alloc o) (below_step (below_step HL.out.bel HBA.out) (below_alloc (Below.refl _ _) o))).1
            have hxa1 := fun (o : Obj) => (HX.out (W1.alloc o) (below_step (below_step HL.out.bel HBA.out) (below_alloc (Below.refl _ _) o))).2
            have HT := Aside0.mk (fun (W : World) (hW : Below W1.heap.size W1 W) => take_ref W A c lb (rd_T47 l0 k).f0 (rd_T47 l0 k).f1 (Kd.C_below HL.out.row (below_step (below_step HL.out.bel HBA.out) hW)) HL.out.cap HL.out.u (by have := HL.out.len; omega))
            go_upto_region 12 with fail
            go_cut [11, 12, 13] (fun v11 v12 v13 wc => ∃ (qf : Nat) (A3 : Option Addr) (c3 : Nat), v11 = .pointer (some ⟨qf, 0, none⟩) ∧ v12 = .int .i64 (takeR lb (rd_T47 l0 k).f0 (rd_T47 l0 k).f1).2.1 ∧ v13 = .bool (takeR lb (rd_T47 l0 k).f0 (rd_T47 l0 k).f1).2.2 ∧ Aside0 (GotF W1 wc qf A lb A3 c3 (takeR lb (rd_T47 l0 k).f0 (rd_T47 l0 k).f1)))
            case first =>
              go_region_with (go_at_call 39; refine (HT.out _ ?_).mono ?_; (first | exact below_drew (Below.refl _ _) | exact below_drew (below_alloc (Below.refl _ _) _)); rintro e w5 ⟨A3, c3, rfl, hb5, hc5, hC5⟩; obtain ⟨hbc, hbf⟩ := bcell hb5; have hbz := hb5.size; simp at hbz)
              all_goals
                go_wp2_with fail
                go_meet
                case rel => first | exact ⟨_, A3, c3, rfl, rfl, rfl, ⟨got_A W1 w5 A lb A3 c3 _ hb5 hc5 hC5⟩⟩ | exact ⟨_, A3, c3, rfl, rfl, rfl, ⟨got_B W1 w5 _ _ _ _ A lb A3 c3 _ hb5 hc5 hC5⟩⟩
            case rest =>
              obtain ⟨qf, A3, c3, rfl, e12, e13, HF⟩ := hcut
              clear HT hxa0 hxa1 hx0 hx1
              obtain ⟨N, Ar, cr, hrd⟩ := HL.out.rd
              have HRW := Aside0.mk (hrd.below (below_step HBA.out HF.out.bel))
              have HGQ := Aside0.mk (show N ≤ wr.heap.size from hrd.hi)
              have HBW := Aside0.mk (below_step (below_step HL.out.bel HBA.out) HF.out.bel)
              have HWZ := Aside0.mk (show w.heap.size ≤ wr.heap.size from HL.out.bel.size)
              have HQB := Aside0.mk ((HF.out.bel.block wr.heap.size (by have := HBS.out; omega)).trans HBX.out)
              have hblk := HF.out.blk
              have hqb := HQB.out
              generalize hRR : takeR lb (rd_T47 l0 k).f0 (rd_T47 l0 k).f1 = R at HF e12 e13 hblk
              have j0 : wc.cell? ⟨qf, 0, none⟩ = some (.int .i64 R.1.f0) := by simp [World.cell?, hblk]
              have j1 : wc.cell? ⟨qf, 1, none⟩ = some (.int .i64 R.1.f1) := by simp [World.cell?, hblk]
              have j2 : wc.cell? ⟨qf, 2, none⟩ = some (.int .u64 R.1.f2) := by simp [World.cell?, hblk]
              have j3 : wc.cell? ⟨qf, 3, none⟩ = some (.slice A3 R.1.f3.length c3) := by simp [World.cell?, hblk]
              have z0 : wc.cell? ⟨wr.heap.size, 0, none⟩ = some (.int .i64 0) := by simp [World.cell?, hqb]
              have z1 : wc.cell? ⟨wr.heap.size, 1, none⟩ = some (.int .i64 0) := by simp [World.cell?, hqb]
              have z2 : wc.cell? ⟨wr.heap.size, 2, none⟩ = some (.int .u64 0) := by simp [World.cell?, hqb]
              have z3 : wc.cell? ⟨wr.heap.size, 3, none⟩ = some (.slice none 0 0) := by simp [World.cell?, hqb]
              have t0 : wc.frozen? ⟨wr.heap.size, 0, none⟩ = false := by simp [World.frozen?, hqb]
              have t1 : wc.frozen? ⟨wr.heap.size, 1, none⟩ = false := by simp [World.frozen?, hqb]
              have t2 : wc.frozen? ⟨wr.heap.size, 2, none⟩ = false := by simp [World.frozen?, hqb]
              have t3 : wc.frozen? ⟨wr.heap.size, 3, none⟩ = false := by simp [World.frozen?, hqb]
              clear hblk hqb
              have HRR := Aside0.mk hRR
              have HFB := Aside0.mk (four_set wc wr.heap.size _ _ _ _ (.int .i64 R.1.f0) (.int .i64 R.1.f1) (.int .u64 R.1.f2) (.slice A3 R.1.f3.length c3) 47 HQB.out)
              have HFW := Aside0.mk (four_below HBW.out wr.heap.size HWZ.out (.int .i64 R.1.f0) (.int .i64 R.1.f1) (.int .u64 R.1.f2) (.slice A3 R.1.f3.length c3))
              have HFR := Aside0.mk ((((HRW.out.far wr.heap.size 0 HGQ.out (.int .i64 R.1.f0)).far wr.heap.size 1 HGQ.out (.int .i64 R.1.f1)).far wr.heap.size 2 HGQ.out (.int .u64 R.1.f2)).far wr.heap.size 3 HGQ.out (.slice A3 R.1.f3.length c3))
              clear hRR hrd
              by_cases hR : R.2.2 = true
              · have hy := take_yes lb (rd_T47 l0 k).f0 (rd_T47 l0 k).f1 HL.out.u (by rw [HRR.out]; exact hR)
                rw [HRR.out] at hy
                rw [hR] at e13
                obtain ⟨n, hn⟩ := Int.eq_ofNat_of_zero_le hy.1
                rw [hn] at e12 hy
                rw [Int.toNat_natCast] at hy
                have hnl : n ≤ lb.length := by have := hy.2.1; omega
                have HY := Aside0.mk hy
                have HD := Aside0.mk (show Kd.C (Kd.int .u8) w (if c = n then A else A.map (·.add n)) (lb.drop n).length (lb.drop n) by
                  have hd := Kd.C_drop HL.out.row hnl HL.out.cap
                  rwa [show n * (Kd.int .u8).sz = n from Nat.mul_one n] at hd)
                have e4 : (n ≤ c) = True := eq_true (by have := HL.out.cap; omega)
                have e5 : (n ≤ lb.length) = True := eq_true hnl
                have e6 : (lb.length < n) = False := eq_false (by omega)
                have HN := Aside0.mk hnl
                subst e12 e13
                clear hy hn hR hnl
                by_cases hcn : c = n
                · have HD2 := Aside0.mk (show Kd.C (Kd.int .u8) w A (lb.drop n).length (lb.drop n) by have := HD.out; rwa [if_pos hcn] at this)
                  have HCN := Aside0.mk hcn
                  go_wp2_with fail
                  go_meet
                  case rel =>
                    have hcap := HL.out.cap
                    have hnn := HN.out
                    have hcc := HCN.out
                    exact ⟨R.1, A3, c3, true, A, 0, lb.drop n, by rw [List.length_drop], rfl, ⟨N, HFB.out, HF.out.row w HL.out.row, HF.out.cap, HY.out.2.2.2.2, HY.out.2.2.2.1, HY.out.2.2.1, HD2.out, by rw [List.length_drop]; omega, by rw [List.length_drop]; have := HL.out.len; omega, fun x hx => HL.out.u x (List.mem_of_mem_drop hx), (fun h => by cases h), ⟨_, _, HFR.out⟩, HGQ.out, HFW.out⟩⟩
                · have HD2 := Aside0.mk (show Kd.C (Kd.int .u8) w (A.map (·.add n)) (lb.drop n).length (lb.drop n) by have := HD.out; rwa [if_neg hcn] at this)
                  go_wp2_with fail
                  go_meet
                  case rel =>
                    have hcap := HL.out.cap
                    have hnn := HN.out
                    exact ⟨R.1, A3, c3, true, A.map (·.add n), c - n, lb.drop n, by rw [List.length_drop], rfl, ⟨N, HFB.out, HF.out.row w HL.out.row, HF.out.cap, HY.out.2.2.2.2, HY.out.2.2.2.1, HY.out.2.2.1, HD2.out, by rw [List.length_drop]; omega, by rw [List.length_drop]; have := HL.out.len; omega, fun x hx => HL.out.u x (List.mem_of_mem_drop hx), (fun h => by cases h), ⟨_, _, HFR.out⟩, HGQ.out, HFW.out⟩⟩
              · have hR' : R.2.2 = false := by simpa using hR
                have hy := take_no lb (rd_T47 l0 k).f0 (rd_T47 l0 k).f1 (by rw [HRR.out]; exact hR')
                rw [HRR.out] at hy
                rw [hR'] at e13
                rw [hy.2.1] at e12
                have HY := Aside0.mk hy
                subst e12 e13
                clear hy hR hR'
                have e4 : (0 ≤ c) = True := eq_true (Nat.zero_le _)
                by_cases hcn : c = 0
                all_goals
                  go_wp2_with fail
                  go_meet
                  case rel =>
                    have hFB := HFB.out
                    have hcp := HF.out.cap
                    have hrw := HF.out.row w HL.out.row
                    rw [HY.out.1] at hcp hrw
                    have ho := HY.out.2.2
                    exact ⟨R.1, A3, c3, false, none, 0, [], rfl, rfl, ⟨N, hFB, by rw [HY.out.1]; exact hrw, by rw [HY.out.1]; exact hcp, by rw [HY.out.1]; simp [z47], by rw [HY.out.1]; exact ho.2, ho.1, Kd.C_nil _ _, Nat.le_refl _, by simp, by simp [u8L], fun _ => rfl, ⟨_, _, HFR.out⟩, HGQ.out, HFW.out⟩⟩
        case rest =>
          obtain ⟨x, A3, c3, wh2, A2, c2, lb2, rfl, rfl, HM⟩ := hcut
          obtain ⟨N, hm⟩ := HM.out
          have HM := Aside0.mk hm
          clear hm
          obtain ⟨kq', rfl⟩ : ∃ m, gk = m + 1 := ⟨gk - 1, by have := HGK.out; omega⟩
          have hblk := HM.out.blk
          have z0 : wc.cell? ⟨wr.heap.size, 0, none⟩ = some (.int .i64 x.f0) := by simp [World.cell?, hblk]
          have z1 : wc.cell? ⟨wr.heap.size, 1, none⟩ = some (.int .i64 x.f1) := by simp [World.cell?, hblk]
          have z2 : wc.cell? ⟨wr.heap.size, 2, none⟩ = some (.int .u64 x.f2) := by simp [World.cell?, hblk]
          have z3 : wc.cell? ⟨wr.heap.size, 3, none⟩ = some (.slice A3 x.f3.length c3) := by simp [World.cell?, hblk]
          clear hblk
          have hx := HX.out wc HM.out.bel
          have hx0 := hx.1
          have hx1 := hx.2
          clear hx
          have hbd : Below w.heap.size w wc.drew := below_drew HM.out.bel
          obtain ⟨Ar, cr, hrd⟩ := HM.out.rd
          have HRC := Aside0.mk (show Calls Try.prog 40 #[.pointer (some ⟨g, 0, none⟩), .int .i64 (rd_T47 l0 k).f0, .int .i64 (rd_T47 l0 k).f1, .bool text, .agg #[.int .i64 x.f0, .int .i64 x.f1, .int .u64 x.f2, .slice A3 x.f3.length c3]] wc.drew fun e w' => e = .returned (.bool true) ∧ (∃ A2 c2, RdV w' g N A2 c2 lb2 (flt wh2)) ∧ Kept1 wc.drew w' g by
            refine (read_calls wc.drew g N Ar cr lb (flt wh) _ _ text x A3 c3 (hrd.below (below_drew (Below.refl _ _))) HL.out.u (by have := HL.out.len; omega) (fun w' hk => Kd.C_below HM.out.row3 (hbd.trans (hk.bel.mono HG.out))) HM.out.cap3 HM.out.u3).mono ?_
            rintro e w' ⟨rfl, h2, h3⟩
            rw [HM.out.ok]
            rw [HM.out.nx] at h2
            exact ⟨rfl, h2, h3⟩)
          have HS0 := Aside0.mk (show (fun w' => w'.cell? (ad.add (k * 4)) = some (.int .i64 (rd_T47 l0 k).f0) ∧ w'.cell? ⟨(ad.add (k * 4)).block, (ad.add (k * 4)).off + 1, none⟩ = some (.int .i64 (rd_T47 l0 k).f1) ∧ w'.cell? ⟨wr.heap.size, 0, none⟩ = some (.int .i64 x.f0) ∧ w'.cell? ⟨wr.heap.size, 1, none⟩ = some (.int .i64 x.f1) ∧ w'.cell? ⟨wr.heap.size, 2, none⟩ = some (.int .u64 x.f2) ∧ w'.cell? ⟨wr.heap.size, 3, none⟩ = some (.slice A3 x.f3.length c3)) wc.drew from ⟨hx0, hx1, z0, z1, z2, z3⟩)
          have HSS := Aside0.mk (fun W (hk : Kept1 wc.drew W g) => show (fun w' => w'.cell? (ad.add (k * 4)) = some (.int .i64 (rd_T47 l0 k).f0) ∧ w'.cell? ⟨(ad.add (k * 4)).block, (ad.add (k * 4)).off + 1, none⟩ = some (.int .i64 (rd_T47 l0 k).f1) ∧ w'.cell? ⟨wr.heap.size, 0, none⟩ = some (.int .i64 x.f0) ∧ w'.cell? ⟨wr.heap.size, 1, none⟩ = some (.int .i64 x.f1) ∧ w'.cell? ⟨wr.heap.size, 2, none⟩ = some (.int .u64 x.f2) ∧ w'.cell? ⟨wr.heap.size, 3, none⟩ = some (.slice A3 x.f3.length c3)) W from
            have hw := HX.out W (hbd.trans (hk.bel.mono HG.out))
            have hb := (hk.kept wr.heap.size (Array.getElem?_eq_some_iff.1 HM.out.blk).1 (by have := hrd.lo; have := HM.out.old; omega)).trans HM.out.blk
            ⟨hw.1, hw.2, by simp [World.cell?, hb], by simp [World.cell?, hb], by simp [World.cell?, hb], by simp [World.cell?, hb]⟩)
          have HBD := Aside0.mk hbd
          have hwk : wrap64 ((k : Int) + 1) = ((k + 1 : Nat) : Int) := by have := H40.out; unfold wrap64; omega
          clear hrd hbd
          generalize hf2 : flt wh2 = f2 at HRC
          cases wh2
          · obtain rfl : f2 = 4 := hf2.symm
            clear hf2
            go_wp2_with fail
            go_region_held3 (fun w' => w'.cell? (ad.add (k * 4)) = some (.int .i64 (rd_T47 l0 k).f0) ∧ w'.cell? ⟨(ad.add (k * 4)).block, (ad.add (k * 4)).off + 1, none⟩ = some (.int .i64 (rd_T47 l0 k).f1) ∧ w'.cell? ⟨wr.heap.size, 0, none⟩ = some (.int .i64 x.f0) ∧ w'.cell? ⟨wr.heap.size, 1, none⟩ = some (.int .i64 x.f1) ∧ w'.cell? ⟨wr.heap.size, 2, none⟩ = some (.int .u64 x.f2) ∧ w'.cell? ⟨wr.heap.size, 3, none⟩ = some (.slice A3 x.f3.length c3)) (first | exact HS0.out | exact HSS.out _ HK.out) (first | (go_at_call 40; refine HRC.out.mono ?_; rintro e w5 ⟨rfl, ⟨A5, c5, hr5⟩, hk5⟩; have HR := Aside0.mk hr5; have HK := Aside0.mk hk5; clear hr5 hk5) | (go_at_call 41; refine (left_calls _ _ _ _ _ _ _ HR.out).mono ?_; rintro e w6 ⟨rfl, hd⟩; have HK := Aside0.mk (HK.out.trans (Kept1.of_below hd.below HR.out.lt)); have HR := Aside0.mk (HR.out.below hd.below); clear hd) | (go_at_call 42; refine (fault_calls _ _ _ _ _ _ _ HR.out).mono ?_; rintro e w7 ⟨rfl, hd⟩; have HK := Aside0.mk (HK.out.trans (Kept1.of_below hd.below HR.out.lt)); have HR := Aside0.mk (HR.out.below hd.below); clear hd))
            go_wp2_with fail
            go_roundg kq'
            case measure => omega
            case rel => exact ⟨k + 1, _, A2, c2, lb2, rfl, rfl, by rw [hwk], ⟨by have := HGK.out; omega⟩, ⟨⟨HM.out.row2, HM.out.cap2, HM.out.len2, HM.out.u2, HM.out.nil2, ⟨N, _, _, HR.out⟩, HBD.out.trans (HK.out.bel.mono HG.out)⟩⟩⟩
          · obtain rfl : f2 = 0 := hf2.symm
            clear hf2
            go_wp2_with fail
            refine wp_region_noPanic ?_
            refine wp_region_held_drew (S := (fun w' => w'.cell? (ad.add (k * 4)) = some (.int .i64 (rd_T47 l0 k).f0) ∧ w'.cell? ⟨(ad.add (k * 4)).block, (ad.add (k * 4)).off + 1, none⟩ = some (.int .i64 (rd_T47 l0 k).f1) ∧ w'.cell? ⟨wr.heap.size, 0, none⟩ = some (.int .i64 x.f0) ∧ w'.cell? ⟨wr.heap.size, 1, none⟩ = some (.int .i64 x.f1) ∧ w'.cell? ⟨wr.heap.size, 2, none⟩ = some (.int .u64 x.f2) ∧ w'.cell? ⟨wr.heap.size, 3, none⟩ = some (.slice A3 x.f3.length c3))) (by kernel_rfl) HS0.out (fun hHeld => ?_)
            refine wpAnyH_take (i := 0) (v := ?_) rfl (by kernel_rfl) (by kernel_rfl) (by kernel_rfl) (fun _ _ _ h => h) (Or.inl ⟨by rfl, ?_⟩) (by assumption) ?_
            rotate_left
            · intro w hSw
              first | (go_simp; done) | (go_simp; with_reducible rfl)
            simp only [List.getElem_toArray, List.getElem_cons_zero, List.getElem_cons_succ, Act.put, List.setIfInBounds_toArray, List.set_cons_zero, List.set_cons_succ]
            refine wpAnyH_take (i := 1) (v := ?_) rfl (by kernel_rfl) (by kernel_rfl) (by kernel_rfl) (fun _ _ _ h => h) (Or.inl ⟨by rfl, ?_⟩) (by assumption) ?_
            rotate_left
            · intro w hSw
              first | (go_simp; done) | (go_simp; with_reducible rfl)
            simp only [List.getElem_toArray, List.getElem_cons_zero, List.getElem_cons_succ, Act.put, List.setIfInBounds_toArray, List.set_cons_zero, List.set_cons_succ]
            refine wpAnyH_take (i := 2) (v := ?_) rfl (by kernel_rfl) (by kernel_rfl) (by kernel_rfl) (fun _ _ _ h => h) (Or.inl ⟨by rfl, ?_⟩) (by assumption) ?_
            rotate_left
            · intro w hSw
              first | (go_simp; done) | (go_simp; with_reducible rfl)
            simp only [List.getElem_toArray, List.getElem_cons_zero, List.getElem_cons_succ, Act.put, List.setIfInBounds_toArray, List.set_cons_zero, List.set_cons_succ]
            refine wpAnyH_take (i := 3) (v := ?_) rfl (by kernel_rfl) (by kernel_rfl) (by kernel_rfl) (fun _ _ _ h => h) (Or.inl ⟨by rfl, ?_⟩) (by assumption) ?_
            rotate_left
            · intro w hSw
              first | (go_simp; done) | (go_simp; with_reducible rfl)
            simp only [List.getElem_toArray, List.getElem_cons_zero, List.getElem_cons_succ, Act.put, List.setIfInBounds_toArray, List.set_cons_zero, List.set_cons_succ]
            refine wpAnyH_take (i := 4) (v := ?_) rfl (by kernel_rfl) (by kernel_rfl) (by kernel_rfl) (fun _ _ _ h => h) (Or.inl ⟨by rfl, ?_⟩) (by assumption) ?_
            rotate_left
            · intro w hSw
              first | (go_simp; done) | (go_simp; with_reducible rfl)
            simp only [List.getElem_toArray, List.getElem_cons_zero, List.getElem_cons_succ, Act.put, List.setIfInBounds_toArray, List.set_cons_zero, List.set_cons_succ]
            refine wpAnyH_take (i := 5) (v := ?_) rfl (by kernel_rfl) (by kernel_rfl) (by kernel_rfl) (fun _ _ _ h => h) (Or.inl ⟨by rfl, ?_⟩) (by assumption) ?_
            rotate_left
            · intro w hSw
              first | (go_simp; done) | (go_simp; with_reducible rfl)
            simp only [List.getElem_toArray, List.getElem_cons_zero, List.getElem_cons_succ, Act.put, List.setIfInBounds_toArray, List.set_cons_zero, List.set_cons_succ]
            refine wpAnyH_take (i := 6) (v := ?_) rfl (by kernel_rfl) (by kernel_rfl) (by kernel_rfl) (fun _ _ _ h => h) (Or.inl ⟨by rfl, ?_⟩) (by assumption) ?_
            rotate_left
            · intro w hSw
              first | (go_simp; done) | (go_simp; with_reducible rfl)
            simp only [List.getElem_toArray, List.getElem_cons_zero, List.getElem_cons_succ, Act.put, List.setIfInBounds_toArray, List.set_cons_zero, List.set_cons_succ]
            refine wpAnyH_take (i := 7) (v := ?_) rfl (by kernel_rfl) (by kernel_rfl) (by kernel_rfl) (fun _ _ _ h => h) (Or.inl ⟨by rfl, ?_⟩) (by assumption) ?_
            rotate_left
            · intro w hSw
              first | (go_simp; done) | (go_simp; with_reducible rfl)
            simp only [List.getElem_toArray, List.getElem_cons_zero, List.getElem_cons_succ, Act.put, List.setIfInBounds_toArray, List.set_cons_zero, List.set_cons_succ]
            refine wpAnyH_take (i := 8) (v := ?_) rfl (by kernel_rfl) (by kernel_rfl) (by kernel_rfl) (fun _ _ _ h => h) (Or.inl ⟨by rfl, ?_⟩) (by assumption) ?_
            rotate_left
            · intro w hSw
              first | (go_simp; done) | (go_simp; with_reducible rfl)
            simp only [List.getElem_toArray, List.getElem_cons_zero, List.getElem_cons_succ, Act.put, List.setIfInBounds_toArray, List.set_cons_zero, List.set_cons_succ]
            refine wpAnyH_take (i := 9) (v := ?_) rfl (by kernel_rfl) (by kernel_rfl) (by kernel_rfl) (fun _ _ _ h => h) (Or.inl ⟨by rfl, ?_⟩) (by assumption) ?_
            rotate_left
            · intro w hSw
              first | (go_simp; done) | (go_simp; with_reducible rfl)
            simp only [List.getElem_toArray, List.getElem_cons_zero, List.getElem_cons_succ, Act.put, List.setIfInBounds_toArray, List.set_cons_zero, List.set_cons_succ]
            refine wpAnyH_take (i := 10) (v := ?_) rfl (by kernel_rfl) (by kernel_rfl) (by kernel_rfl) (fun _ _ _ h => h) (Or.inl ⟨by rfl, ?_⟩) (by assumption) ?_
            rotate_left
            · intro w hSw
              first | (go_simp; done) | (go_simp; with_reducible rfl)
            simp only [List.getElem_toArray, List.getElem_cons_zero, List.getElem_cons_succ, Act.put, List.setIfInBounds_toArray, List.set_cons_zero, List.set_cons_succ]
            refine wpAnyH_take (i := 11) (v := ?_) rfl (by kernel_rfl) (by kernel_rfl) (by kernel_rfl) (fun _ _ _ h => h) (Or.inl ⟨by rfl, ?_⟩) (by assumption) ?_
            rotate_left
            · intro w hSw
              first | (go_simp; done) | (go_simp; with_reducible rfl)
            simp only [List.getElem_toArray, List.getElem_cons_zero, List.getElem_cons_succ, Act.put, List.setIfInBounds_toArray, List.set_cons_zero, List.set_cons_succ]
            refine wpAnyH_take (i := 12) (v := ?_) rfl (by kernel_rfl) (by kernel_rfl) (by kernel_rfl) (fun _ _ _ h => h) (Or.inl ⟨by rfl, ?_⟩) (by assumption) ?_
            rotate_left
            · intro w hSw
              first | (go_simp; done) | (go_simp; with_reducible rfl)
            simp only [List.getElem_toArray, List.getElem_cons_zero, List.getElem_cons_succ, Act.put, List.setIfInBounds_toArray, List.set_cons_zero, List.set_cons_succ]
            refine wpAnyH_ready (rs := [13]) (by kernel_rfl) (by simp) ?_
            refine AllReadyH.cons rfl (fun K hK => ?_) AllReadyH.nil
            go_simp
            refine HRC.out.mono ?_
            rintro e w5 ⟨rfl, ⟨A5, c5, hr5⟩, hk5⟩
            have HR := Aside0.mk hr5
            have HK := Aside0.mk hk5
            clear hr5 hk5
            go_wp2_with fail
            refine hK.out _ _ (by exact HSS.out _ HK.out) (fun hHeld => ?_)
            clear hK K
            try simp only [List.getElem_toArray, List.getElem_cons_zero, List.getElem_cons_succ, Act.put, List.setIfInBounds_toArray, List.set_cons_zero, List.set_cons_succ]
            refine wpAnyH_take (i := 14) (v := ?_) rfl (by kernel_rfl) (by kernel_rfl) (by kernel_rfl) (fun _ _ _ h => h) (Or.inl ⟨by rfl, ?_⟩) (by assumption) ?_
            rotate_left
            · intro w hSw
              first | (go_simp; done) | (go_simp; with_reducible rfl)
            simp only [List.getElem_toArray, List.getElem_cons_zero, List.getElem_cons_succ, Act.put, List.setIfInBounds_toArray, List.set_cons_zero, List.set_cons_succ]
            refine wpAnyH_take (i := 15) (v := ?_) rfl (by kernel_rfl) (by kernel_rfl) (by kernel_rfl) (fun _ _ _ h => h) (Or.inl ⟨by rfl, ?_⟩) (by assumption) ?_
            rotate_left
            · intro w hSw
              first | (go_simp; done) | (go_simp; with_reducible rfl)
            simp only [List.getElem_toArray, List.getElem_cons_zero, List.getElem_cons_succ, Act.put, List.setIfInBounds_toArray, List.set_cons_zero, List.set_cons_succ]
            refine wpAnyH_take (i := 16) (v := ?_) rfl (by kernel_rfl) (by kernel_rfl) (by kernel_rfl) (fun _ _ _ h => h) (Or.inl ⟨by rfl, ?_⟩) (by assumption) ?_
            rotate_left
            · intro w hSw
              first | (go_simp; done) | (go_simp; with_reducible rfl)
            simp only [List.getElem_toArray, List.getElem_cons_zero, List.getElem_cons_succ, Act.put, List.setIfInBounds_toArray, List.set_cons_zero, List.set_cons_succ]
            refine wpAnyH_take (i := 18) (v := ?_) rfl (by kernel_rfl) (by kernel_rfl) (by kernel_rfl) (fun _ _ _ h => h) (Or.inl ⟨by rfl, ?_⟩) (by assumption) ?_
            rotate_left
            · intro w hSw
              first | (go_simp; done) | (go_simp; with_reducible rfl)
            simp only [List.getElem_toArray, List.getElem_cons_zero, List.getElem_cons_succ, Act.put, List.setIfInBounds_toArray, List.set_cons_zero, List.set_cons_succ]
            refine wpAnyH_take (i := 19) (v := ?_) rfl (by kernel_rfl) (by kernel_rfl) (by kernel_rfl) (fun _ _ _ h => h) (Or.inl ⟨by rfl, ?_⟩) (by assumption) ?_
            rotate_left
            · intro w hSw
              first | (go_simp; done) | (go_simp; with_reducible rfl)
            simp only [List.getElem_toArray, List.getElem_cons_zero, List.getElem_cons_succ, Act.put, List.setIfInBounds_toArray, List.set_cons_zero, List.set_cons_succ]
            refine wpAnyH_ready (rs := [17]) (by kernel_rfl) (by simp) ?_
            refine AllReadyH.cons rfl (fun K hK => ?_) AllReadyH.nil
            go_simp
            refine (left_calls _ _ _ _ _ _ _ HR.out).mono ?_
            rintro e w6 ⟨rfl, hd⟩
            have HK := Aside0.mk (HK.out.trans (Kept1.of_below hd.below HR.out.lt))
            have HR := Aside0.mk (HR.out.below hd.below)
            clear hd
            go_wp2_with fail
            refine hK.out _ _ (by exact HSS.out _ HK.out) (fun hHeld => ?_)
            clear hK K
            try simp only [List.getElem_toArray, List.getElem_cons_zero, List.getElem_cons_succ, Act.put, List.setIfInBounds_toArray, List.set_cons_zero, List.set_cons_succ]
            refine wpAnyH_take (i := 20) (v := ?_) rfl (by kernel_rfl) (by kernel_rfl) (by kernel_rfl) (fun _ _ _ h => h) (Or.inl ⟨by rfl, ?_⟩) (by assumption) ?_
            rotate_left
            · intro w hSw
              first | (go_simp; done) | (go_simp; with_reducible rfl)
            simp only [List.getElem_toArray, List.getElem_cons_zero, List.getElem_cons_succ, Act.put, List.setIfInBounds_toArray, List.set_cons_zero, List.set_cons_succ]
            refine wpAnyH_take (i := 21) (v := ?_) rfl (by kernel_rfl) (by kernel_rfl) (by kernel_rfl) (fun _ _ _ h => h) (Or.inl ⟨by rfl, ?_⟩) (by assumption) ?_
            rotate_left
            · intro w hSw
              first | (go_simp; done) | (go_simp; with_reducible rfl)
            simp only [List.getElem_toArray, List.getElem_cons_zero, List.getElem_cons_succ, Act.put, List.setIfInBounds_toArray, List.set_cons_zero, List.set_cons_succ]
            refine wpAnyH_take (i := 22) (v := ?_) rfl (by kernel_rfl) (by kernel_rfl) (by kernel_rfl) (fun _ _ _ h => h) (Or.inl ⟨by rfl, ?_⟩) (by assumption) ?_
            rotate_left
            · intro w hSw
              first | (go_simp; done) | (go_simp; with_reducible rfl)
            simp only [List.getElem_toArray, List.getElem_cons_zero, List.getElem_cons_succ, Act.put, List.setIfInBounds_toArray, List.set_cons_zero, List.set_cons_succ]
            refine wpAnyH_take (i := 23) (v := ?_) rfl (by kernel_rfl) (by kernel_rfl) (by kernel_rfl) (fun _ _ _ h => h) (Or.inl ⟨by rfl, ?_⟩) (by assumption) ?_
            rotate_left
            · intro w hSw
              first | (go_simp; done) | (go_simp; with_reducible rfl)
            simp only [List.getElem_toArray, List.getElem_cons_zero, List.getElem_cons_succ, Act.put, List.setIfInBounds_toArray, List.set_cons_zero, List.set_cons_succ]
            refine wpAnyH_take (i := 26) (v := ?_) rfl (by kernel_rfl) (by kernel_rfl) (by kernel_rfl) (fun _ _ _ h => h) (Or.inl ⟨by rfl, ?_⟩) (by assumption) ?_
            rotate_left
            · intro w hSw
              first | (go_simp; done) | (go_simp; with_reducible rfl)
            simp only [List.getElem_toArray, List.getElem_cons_zero, List.getElem_cons_succ, Act.put, List.setIfInBounds_toArray, List.set_cons_zero, List.set_cons_succ]
            refine wpAnyH_ready (rs := [24]) (by kernel_rfl) (by simp) ?_
            refine AllReadyH.cons rfl (fun K hK => ?_) AllReadyH.nil
            go_simp
            refine (fault_calls _ _ _ _ _ _ _ HR.out).mono ?_
            rintro e w7 ⟨rfl, hd⟩
            have HK := Aside0.mk (HK.out.trans (Kept1.of_below hd.below HR.out.lt))
            have HR := Aside0.mk (HR.out.below hd.below)
            clear hd
            go_wp2_with fail
            refine hK.out _ _ (by exact HSS.out _ HK.out) (fun hHeld => ?_)
            clear hK K
            try simp only [List.getElem_toArray, List.getElem_cons_zero, List.getElem_cons_succ, Act.put, List.setIfInBounds_toArray, List.set_cons_zero, List.set_cons_succ]
            refine wpAnyH_take (i := 25) (v := ?_) rfl (by kernel_rfl) (by kernel_rfl) (by kernel_rfl) (fun _ _ _ h => h) (Or.inl ⟨by rfl, ?_⟩) (by assumption) ?_
            rotate_left
            · intro w hSw
              first | (go_simp; done) | (go_simp; with_reducible rfl)
            simp only [List.getElem_toArray, List.getElem_cons_zero, List.getElem_cons_succ, Act.put, List.setIfInBounds_toArray, List.set_cons_zero, List.set_cons_succ]
            refine wpAnyH_take (i := 27) (v := ?_) rfl (by kernel_rfl) (by kernel_rfl) (by kernel_rfl) (fun _ _ _ h => h) (Or.inl ⟨by rfl, ?_⟩) (by assumption) ?_
            rotate_left
            · intro w hSw
              first | (go_simp; done) | (go_simp; with_reducible rfl)
            simp only [List.getElem_toArray, List.getElem_cons_zero, List.getElem_cons_succ, Act.put, List.setIfInBounds_toArray, List.set_cons_zero, List.set_cons_succ]
            refine wpAnyH_take (i := 28) (v := ?_) rfl (by kernel_rfl) (by kernel_rfl) (by kernel_rfl) (fun _ _ _ h => h) (Or.inl ⟨by rfl, ?_⟩) (by assumption) ?_
            rotate_left
            · intro w hSw
              first | (go_simp; done) | (go_simp; with_reducible rfl)
            simp only [List.getElem_toArray, List.getElem_cons_zero, List.getElem_cons_succ, Act.put, List.setIfInBounds_toArray, List.set_cons_zero, List.set_cons_succ]
            refine wpAnyH_take (i := 29) (v := ?_) rfl (by kernel_rfl) (by kernel_rfl) (by kernel_rfl) (fun _ _ _ h => h) (Or.inl ⟨by rfl, ?_⟩) (by assumption) ?_
            rotate_left
            · intro w hSw
              first | (go_simp; done) | (go_simp; with_reducible rfl)
            simp only [List.getElem_toArray, List.getElem_cons_zero, List.getElem_cons_succ, Act.put, List.setIfInBounds_toArray, List.set_cons_zero, List.set_cons_succ]
            refine wpAnyH_take (i := 30) (v := ?_) rfl (by kernel_rfl) (by kernel_rfl) (by kernel_rfl) (fun _ _ _ h => h) (Or.inl ⟨by rfl, ?_⟩) (by assumption) ?_
            rotate_left
            · intro w hSw
              first | (go_simp; done) | (go_simp; with_reducible rfl)
            simp only [List.getElem_toArray, List.getElem_cons_zero, List.getElem_cons_succ, Act.put, List.setIfInBounds_toArray, List.set_cons_zero, List.set_cons_succ]
            refine wpAnyH_take (i := 31) (v := ?_) rfl (by kernel_rfl) (by kernel_rfl) (by kernel_rfl) (fun _ _ _ h => h) (Or.inl ⟨by rfl, ?_⟩) (by assumption) ?_
            rotate_left
            · intro w hSw
              first | (go_simp; done) | (go_simp; with_reducible rfl)
            simp only [List.getElem_toArray, List.getElem_cons_zero, List.getElem_cons_succ, Act.put, List.setIfInBounds_toArray, List.set_cons_zero, List.set_cons_succ]
            refine wpAnyH_take (i := 32) (v := ?_) rfl (by kernel_rfl) (by kernel_rfl) (by kernel_rfl) (fun _ _ _ h => h) (Or.inl ⟨by rfl, ?_⟩) (by assumption) ?_
            rotate_left
            · intro w hSw
              first | (go_simp; done) | (go_simp; with_reducible rfl)
            simp only [List.getElem_toArray, List.getElem_cons_zero, List.getElem_cons_succ, Act.put, List.setIfInBounds_toArray, List.set_cons_zero, List.set_cons_succ]
            refine wpAnyH_take (i := 33) (v := undef) rfl (by kernel_rfl) (by kernel_rfl) (by kernel_rfl) (fun _ _ _ h => h) (Or.inr ⟨by rfl, rfl⟩) (by assumption) ?_
            simp only [List.getElem_toArray, List.getElem_cons_zero, List.getElem_cons_succ, Act.put, List.setIfInBounds_toArray, List.set_cons_zero, List.set_cons_succ]
            refine wpAnyH_take (i := 34) (v := undef) rfl (by kernel_rfl) (by kernel_rfl) (by kernel_rfl) (fun _ _ _ h => h) (Or.inr ⟨by rfl, rfl⟩) (by assumption) ?_
            simp only [List.getElem_toArray, List.getElem_cons_zero, List.getElem_cons_succ, Act.put, List.setIfInBounds_toArray, List.set_cons_zero, List.set_cons_succ]
            refine wpAnyH_take (i := 35) (v := undef) rfl (by kernel_rfl) (by kernel_rfl) (by kernel_rfl) (fun _ _ _ h => h) (Or.inr ⟨by rfl, rfl⟩) (by assumption) ?_
            simp only [List.getElem_toArray, List.getElem_cons_zero, List.getElem_cons_succ, Act.put, List.setIfInBounds_toArray, List.set_cons_zero, List.set_cons_succ]
            refine wpAnyH_take (i := 36) (v := ?_) rfl (by kernel_rfl) (by kernel_rfl) (by kernel_rfl) (fun _ _ _ h => h) (Or.inl ⟨by rfl, ?_⟩) (by assumption) ?_
            rotate_left
            · intro w hSw
              first | (go_simp; done) | (go_simp; with_reducible rfl)
            simp only [List.getElem_toArray, List.getElem_cons_zero, List.getElem_cons_succ, Act.put, List.setIfInBounds_toArray, List.set_cons_zero, List.set_cons_succ]
            refine wpAnyH_take (i := 37) (v := ?_) rfl (by kernel_rfl) (by kernel_rfl) (by kernel_rfl) (fun _ _ _ h => h) (Or.inl ⟨by rfl, ?_⟩) (by assumption) ?_
            rotate_left
            · intro w hSw
              first | (go_simp; done) | (go_simp; with_reducible rfl)
            simp only [List.getElem_toArray, List.getElem_cons_zero, List.getElem_cons_succ, Act.put, List.setIfInBounds_toArray, List.set_cons_zero, List.set_cons_succ]
            refine wpAnyH_done (by kernel_rfl) ?_ _
            refine NoPanic.normal ?_
            go_wp2_with fail
            go_roundg kq'
            case measure => omega
            case rel => exact ⟨k + 1, _, A2, c2, lb2, rfl, rfl, by rw [hwk], ⟨by have := HGK.out; omega⟩, ⟨⟨HM.out.row2, HM.out.cap2, HM.out.len2, HM.out.u2, HM.out.nil2, ⟨N, _, _, HR.out⟩, HBD.out.trans (HK.out.bel.mono HG.out)⟩⟩⟩
      · have e1 : decide ((k : Int) < l0.length) = false := decide_eq_false (by omega)
        obtain ⟨N, Ar, cr, hrd⟩ := HL.out.rd
        have HEN := Aside0.mk (end_calls wr g N Ar cr lb (flt wh) hrd)
        clear hrd
        cases wh
        · have hfl : flt false = 4 := rfl
          rw [hfl, if_neg (fun h => by have := h.1; omega)] at HEN
          clear hfl
          go_wp2_with fail
          refine HEN.out.mono ?_
          rintro e w5 ⟨rfl, hd⟩
          have HB5 := Aside0.mk (below_step HL.out.bel hd.below)
          clear hd
          go_wp2_with fail
          refine (HAL.out w5 HB5.out).mono ?_
          rintro e w6 ⟨rfl, hb6⟩
          have HB6 := Aside0.mk hb6
          clear hb6
          go_wp2_with fail
          go_ret
          exact ⟨rfl, HB6.out⟩
        · have hfl : flt true = 0 := rfl
          rw [hfl] at HEN
          clear hfl
          by_cases h0 : lb = []
          · subst h0
            rw [if_neg (fun h => by have := h.2; simp at this)] at HEN
            go_wp2_with fail
            refine HEN.out.mono ?_
            rintro e w5 ⟨rfl, hd⟩
            have HB5 := Aside0.mk (below_step HL.out.bel hd.below)
            clear hd
            go_wp2_with fail
            refine (HAL.out w5 HB5.out).mono ?_
            rintro e w6 ⟨rfl, hb6⟩
            have HB6 := Aside0.mk hb6
            clear hb6
            go_wp2_with fail
            go_ret
            exact ⟨rfl, HB6.out⟩
          · have h1 : 0 < lb.length := List.length_pos_iff.2 h0
            rw [if_pos ⟨rfl, h1⟩] at HEN
            have e5 : ((lb.length : Int) == 0) = false := by simpa using h0
            have e6 : (lb = []) = False := eq_false h0
            clear h1 h0
            go_wp2_with fail
            refine HEN.out.mono ?_
            rintro e w5 ⟨rfl, hd⟩
            have HB5 := Aside0.mk (below_step HL.out.bel hd.below)
            clear hd
            go_wp2_with fail
            refine (HAL.out w5 HB5.out).mono ?_
            rintro e w6 ⟨rfl, hb6⟩
            have HB6 := Aside0.mk hb6
            clear hb6
            go_wp2_with fail
            go_ret
            exact ⟨rfl, HB6.out⟩
end Go.Proofs.Ytbodefikbonjaaa.Q
