/- WireBack, by hand: fields are read as they were written, up to the end, and what nil ones say. -/
import Derived.Test.YtbodefikbonjaaaBackPlain
import Derived.Test.YtbodefikbonjaaaHNil
namespace Go.Proofs.Ytbodefikbonjaaa.Q
open Go.RowKit Go.Proofs.YtbodefikbonjaaaW.PrintWords Go.Proofs.YtbodefikbonjaaaW.PrintLast Go.Proofs.YtbodefikbonjaaaW.PrintMore
set_option linter.unusedVariables false

attribute [local go_sem] max2_int max_two in
set_option maxRecDepth 100000 in
set_option maxHeartbeats 4000000 in
theorem back_calls (A0 : Option Addr) (c0 : Nat) (l0 : List S47) (text : Bool) (w : World) (hr0 : Kd.C k47 w A0 l0.length l0) (hc0 : l0.length ≤ c0) (hok : ∀ x ∈ l0, okF x) :
    Calls Try.prog 10 #[.slice A0 l0.length c0, .bool text] w fun e w' => e = .returned (.bool true) ∧ Below w.heap.size w w' := by
  obtain ⟨b, hb1, hb2⟩ := light_eq l0
  have HLT := Aside0.mk (oubliettelaw05_light.calls (l0.length + 1) A0 c0 l0 b w hr0 hc0 hb1)
  have HR := Aside0.mk hr0
  have HOK := Aside0.mk (fun (m : Nat) (h : m < l0.length) => hok (rd_T47 l0 m) (by rw [rd_T l0 m h]; exact List.getElem_mem h))
  clear hr0 hc0 hb1 hok
  go_enter Try.func10, Try.ntmps10
  go_wp2_with fail
  refine HLT.out.mono ?_
  rintro e w1 ⟨rfl, hd⟩
  have HB1 := Aside0.mk hd.below
  clear hd HLT
  cases b
  · go_wp2_with fail
    refine (alive_calls w1).mono ?_
    rintro e w2 ⟨rfl, hb⟩
    have HB2 := Aside0.mk (below_step HB1.out hb)
    clear hb
    go_wp2_with fail
    go_ret
    exact ⟨rfl, HB2.out⟩
  · obtain ⟨h40, hlt⟩ := hb2 rfl
    have H40 := Aside0.mk h40
    have HLF := Aside0.mk hlt
    have HFL := Aside0.mk (flat_len l0 hlt)
    have HRL := Aside0.mk (restW_len l0 hlt)
    have HRU := Aside0.mk (restW_u8 l0 hlt HOK.out)
    clear hb2 h40 hlt
    go_wp2_with fail
    have HW0 := Aside0.mk (wr_new w1)
    go_loopg [6] l0.length (fun kq vi wr => ∃ (k : Nat) (v : Value), vi = .int .i64 (k : Int) ∧ Aside0 (k + kq = l0.length) ∧ Aside0 (WrV wr w1.heap.size w1.heap.size v (flat l0 k)) ∧ Aside0 (Below w1.heap.size w1 wr))
    case atStart => exact ⟨0, .slice none 0 0, rfl, ⟨by omega⟩, HW0, ⟨below_alloc (Below.refl _ _) _⟩⟩
    case round =>
      clear HW0
      obtain ⟨k, v, rfl, HGK, HW, HB⟩ := hrel
      have HBW := Aside0.mk (below_step HB1.out HB.out)
      have hwk : wrap64 ((k : Int) + 1) = ((k + 1 : Nat) : Int) := by have := H40.out; have := HGK.out; unfold wrap64; omega
      by_cases hlt : k < l0.length
      · have e1 : decide ((k : Int) < l0.length) = true := decide_eq_true (by omega)
        have q0 : (0 : Int) ≤ k := by omega
        have q1 : (k : Int) < l0.length := by omega
        obtain ⟨ad, A3, c3, ea, hx0, hx1, hx2, hx3, hc3, hC3⟩ := at_T47 HR.out (k : Int) q0 q1
        cases ea
        rw [Int.toNat_natCast] at hx0 hx1 hx2 hx3
        have hbk : ∀ {p : Addr} {u : Value}, w.cell? p = some u → p.block < w.heap.size := fun {p u} h => by
          rcases Nat.lt_or_ge p.block w.heap.size with h' | h'
          · exact h'
          · simp [World.cell?, Array.getElem?_eq_none h'] at h
        have HX := Aside0.mk (fun (W : World) (hW : Below w.heap.size w W) => And.intro ((hW.cell (hbk hx0)).trans hx0) (And.intro ((hW.cell (hbk hx1)).trans hx1) (And.intro ((hW.cell (hbk hx2)).trans hx2) ((hW.cell (hbk hx3)).trans hx3))))
        clear hx0 hx1 hx2 hx3 hbk
        obtain ⟨hx0, hx1, hx2, hx3⟩ := HX.out wr HBW.out
        have HC3 := Aside0.mk hC3
        have hBsz : w1.heap.size ≤ wr.heap.size := HB.out.size
        have HWR := Aside0.mk (write_calls wr w1.heap.size w1.heap.size v (flat l0 k) (rd_T47 l0 k) A3 c3 text HW.out hBsz (fun w' hb => Kd.C_below HC3.out (below_step HB1.out (HB.out.trans hb))) hc3 (HLF.out k hlt).2.2 (HOK.out k hlt).1 (HOK.out k hlt).2 (by have := HFL.out k (Nat.le_of_lt hlt); have := H40.out; omega))
        obtain ⟨kq', rfl⟩ : ∃ m, gk = m + 1 := ⟨gk - 1, by have := HGK.out; omega⟩
        have HFS := Aside0.mk (flat_succ l0 k hlt)
        clear hc3 hC3 hBsz
        go_wp2_with fail
        refine HWR.out.mono ?_
        rintro e w2 ⟨rfl, v2, h1, h2, h3⟩
        have HW2 := Aside0.mk h1
        have HB2 := Aside0.mk (HB.out.trans h2)
        clear h1 h2 h3 hx0 hx1 hx2 hx3 HWR
        go_wp2_with fail
        go_roundg kq'
        case measure => omega
        case rel => exact ⟨k + 1, v2, by rw [hwk], ⟨by have := HGK.out; omega⟩, ⟨by rw [HFS.out]; exact HW2.out⟩, HB2⟩
      · have e1 : decide ((k : Int) < l0.length) = false := decide_eq_false (by omega)
        obtain rfl : k = l0.length := by have := HGK.out; omega
        have HFE := Aside0.mk (flat_restW l0)
        have HLE := Aside0.mk (show (restW l0 0).length < 1000000 by have := HRL.out l0.length 0 (by omega); have := H40.out; omega)
        clear HGK hwk hlt
        go_wp2_with fail
        refine (out_calls wr w1.heap.size w1.heap.size v (restW l0 0) (by rw [← HFE.out]; exact HW.out) (by have := HLE.out; omega)).mono ?_
        rintro e w2 ⟨v0, rfl, ho, hb⟩
        obtain ⟨A6, c6, rfl, hc6, hC6⟩ := Kd.R_reads ho
        have HB2 := Aside0.mk (below_step HBW.out hb)
        have HMK := Aside0.mk (make_calls w2 A6 c6 (restW l0 0) hC6 hc6 HLE.out)
        clear ho hb hC6 hc6
        go_wp2_with fail
        refine HMK.out.mono ?_
        rintro e w3 ⟨g, Ar, cr, rfl, hrd, hb3, hg⟩
        have HRD := Aside0.mk (show ∃ N Ar cr, RdV w3 g N Ar cr (restW l0 0) 0 from ⟨_, Ar, cr, hrd⟩)
        have HB3 := Aside0.mk (below_step HB2.out hb3)
        have HG := Aside0.mk (show w.heap.size ≤ g from Nat.le_trans HB2.out.size hg)
        clear hrd hb3 hg HMK HFE
        go_wp2_with fail
        go_loopg [8] l0.length (fun kq vi wr => ∃ (k : Nat), vi = .int .i64 (k : Int) ∧ Aside0 (k + kq = l0.length) ∧ Aside0 (∃ N Ar cr, RdV wr g N Ar cr (restW l0 k) 0) ∧ Aside0 (Below w.heap.size w wr))
        case atStart => exact ⟨0, rfl, ⟨by omega⟩, HRD, HB3⟩
        case round =>
          obtain ⟨k, rfl, HGK, HRK, HBK⟩ := hrel
          have hwk : wrap64 ((k : Int) + 1) = ((k + 1 : Nat) : Int) := by have := H40.out; have := HGK.out; unfold wrap64; omega
          by_cases hlt : k < l0.length
          · have e1 : decide ((k : Int) < l0.length) = true := decide_eq_true (by omega)
            have q0 : (0 : Int) ≤ k := by omega
            have q1 : (k : Int) < l0.length := by omega
            obtain ⟨ad, A3, c3, ea, hx0, hx1, hx2, hx3, hc3, hC3⟩ := at_T47 HR.out (k : Int) q0 q1
            cases ea
            rw [Int.toNat_natCast] at hx0 hx1 hx2 hx3
            have hlf := HLF.out k hlt
            have hokk := HOK.out k hlt
            have hst := restW_step l0 k hlt
            generalize rd_T47 l0 k = x at hx0 hx1 hx2 hx3 hc3 hC3 hlf hokk hst
            have hbk : ∀ {p : Addr} {u : Value}, w.cell? p = some u → p.block < w.heap.size := fun {p u} h => by
              rcases Nat.lt_or_ge p.block w.heap.size with h' | h'
              · exact h'
              · simp [World.cell?, Array.getElem?_eq_none h'] at h
            replace hx0 := (HBK.out.cell (hbk hx0)).trans hx0
            replace hx1 := (HBK.out.cell (hbk hx1)).trans hx1
            replace hx2 := (HBK.out.cell (hbk hx2)).trans hx2
            replace hx3 := (HBK.out.cell (hbk hx3)).trans hx3
            have HRC := Aside0.mk (fun (hk : ¬ (x.f0 = 1 ∧ (x.f1 < 1 ∨ 8 < x.f1))) (W : World) (hW : Below wr.heap.size wr W) => show Calls Try.prog 40 #[.pointer (some ⟨g, 0, none⟩), .int .i64 x.f0, .int .i64 (backS x), .bool text, .agg #[.int .i64 x.f0, .int .i64 x.f1, .int .u64 (backF x).f2, .slice A3 x.f3.length c3]] W fun e w' => e = .returned (.bool true) ∧ (∃ N Ar cr, RdV w' g N Ar cr (restW l0 (k + 1)) 0) ∧ Below w.heap.size w w' by
              obtain ⟨N, Ar, cr, hrd⟩ := HRK.out
              have hbW := below_step HBK.out hW
              have hll : (restW l0 k).length < 1000000 := by have := HRL.out (l0.length - k) k (by omega); have := H40.out; omega
              have hbr := back_read x (restW l0 (k + 1)) hlf hokk.1 hk
              rw [← hst] at hbr
              refine (read_calls W g N Ar cr (restW l0 k) 0 x.f0 (backS x) text (backF x) A3 c3 (hrd.below hW) (HRU.out k) hll (fun w' hk => Kd.C_below hC3 (hbW.trans (hk.bel.mono HG.out))) hc3 hokk.2).mono ?_
              rintro e w' ⟨rfl, ⟨A2, c2, h2⟩, h3⟩
              rw [hbr.1]
              rw [hbr.2] at h2
              exact ⟨rfl, ⟨N, A2, c2, h2⟩, hbW.trans (h3.bel.mono HG.out)⟩)
            have HEX := Aside0.mk (fun (hk : x.f0 = 1 ∧ (x.f1 < 1 ∨ 8 < x.f1)) => show restW l0 k = restW l0 (k + 1) by rw [hst, wrB, if_neg (by omega), if_pos hk.1, if_pos hk.2]; rfl)
            obtain ⟨kq', rfl⟩ : ∃ m, gk = m + 1 := ⟨gk - 1, by have := HGK.out; omega⟩
            have HBA := Aside0.mk (fun o => below_alloc (Below.refl wr.heap.size wr) o)
            obtain ⟨x0, x1, x2, x3⟩ := x
            simp only at hx0 hx1 hx2 hx3 HRC HEX
            obtain ⟨p0, p2⟩ : 0 ≤ x2 ∧ x2 ≤ 18446744073709551615 := hokk.1
            have hx012 : x0 = 0 ∨ x0 = 1 ∨ x0 = 2 := by have h1 : 0 ≤ x0 := hlf.1; have h2 : x0 ≤ 2 := hlf.2.1; omega
            clear hlf hokk hst hbk hc3 hC3
            rcases hx012 with rfl | rfl | rfl
            · rw [backS_0, backF_0] at HRC
              by_cases hm : x1 < 0
              all_goals
                first | rw [if_pos hm] at HRC | rw [if_neg hm] at HRC
                first | have e2 : (x1 < 0) = True := eq_true hm | have e2 : (x1 < 0) = False := eq_false hm
                clear hm
                go_wp2_with fail
                refine (HRC.out (by omega) _ (HBA.out _)).mono ?_
                rintro e w5 ⟨rfl, hr5, hb5⟩
                have HR5 := Aside0.mk hr5
                have HB5 := Aside0.mk hb5
                clear hr5 hb5
                go_wp2_with fail
                go_roundg kq'
                case measure => omega
                case rel => exact ⟨k + 1, by rw [hwk], ⟨by have := HGK.out; omega⟩, HR5, HB5⟩
            · rw [backS_1, backF_1] at HRC
              by_cases h1 : x1 < 1
              · have e2 : decide (x1 < 1) = true := decide_eq_true h1
                have HRX := Aside0.mk (show ∃ N Ar cr, RdV (wr.alloc (.cells #[.int .i64 1, .int .i64 x1, .int .u64 x2, .slice A3 x3.length c3] 47)) g N Ar cr (restW l0 (k + 1)) 0 by
                  obtain ⟨N, Ar, cr, h⟩ := HRK.out
                  rw [HEX.out ⟨rfl, Or.inl h1⟩] at h
                  exact ⟨N, Ar, cr, h.below (HBA.out _)⟩)
                have HB5 := Aside0.mk (below_step HBK.out (HBA.out (.cells #[.int .i64 1, .int .i64 x1, .int .u64 x2, .slice A3 x3.length c3] 47)))
                clear h1
                go_wp2_with fail
                go_roundg kq'
                case measure => omega
                case rel => exact ⟨k + 1, rfl, ⟨by have := HGK.out; omega⟩, HRX, HB5⟩
              · have e2 : decide (x1 < 1) = false := decide_eq_false h1
                by_cases h8 : 8 < x1
                · have e3 : decide (8 < x1) = true := decide_eq_true h8
                  have HRX := Aside0.mk (show ∃ N Ar cr, RdV (wr.alloc (.cells #[.int .i64 1, .int .i64 x1, .int .u64 x2, .slice A3 x3.length c3] 47)) g N Ar cr (restW l0 (k + 1)) 0 by
                    obtain ⟨N, Ar, cr, h⟩ := HRK.out
                    rw [HEX.out ⟨rfl, Or.inr h8⟩] at h
                    exact ⟨N, Ar, cr, h.below (HBA.out _)⟩)
                  have HB5 := Aside0.mk (below_step HBK.out (HBA.out (.cells #[.int .i64 1, .int .i64 x1, .int .u64 x2, .slice A3 x3.length c3] 47)))
                  clear h8
                  go_wp2_with fail
                  go_roundg kq'
                  case measure => omega
                  case rel => exact ⟨k + 1, rfl, ⟨by have := HGK.out; omega⟩, HRX, HB5⟩
                · rw [if_neg (show ¬ x1 < 0 by omega)] at HRC
                  by_cases h9 : x1 < 8
                  · rw [if_pos h9] at HRC
                    have hx8 : x1 = 1 ∨ x1 = 2 ∨ x1 = 3 ∨ x1 = 4 ∨ x1 = 5 ∨ x1 = 6 ∨ x1 = 7 := by omega
                    clear h1 h8 e2 HEX h9
                    rcases hx8 with rfl | rfl | rfl | rfl | rfl | rfl | rfl
                    all_goals
                      first | rw [show (2 : Int) ^ (8 * Int.toNat 1) = 256 from rfl] at HRC | rw [show (2 : Int) ^ (8 * Int.toNat 2) = 65536 from rfl] at HRC | rw [show (2 : Int) ^ (8 * Int.toNat 3) = 16777216 from rfl] at HRC | rw [show (2 : Int) ^ (8 * Int.toNat 4) = 4294967296 from rfl] at HRC | rw [show (2 : Int) ^ (8 * Int.toNat 5) = 1099511627776 from rfl] at HRC | rw [show (2 : Int) ^ (8 * Int.toNat 6) = 281474976710656 from rfl] at HRC | rw [show (2 : Int) ^ (8 * Int.toNat 7) = 72057594037927936 from rfl] at HRC
                      go_wp2_with fail
                      go_region
                      go_wp2_with fail
                      refine (HRC.out (by omega) _ (below_drew (HBA.out _))).mono ?_
                      rintro e w5 ⟨rfl, hr5, hb5⟩
                      have HR5 := Aside0.mk hr5
                      have HB5 := Aside0.mk hb5
                      clear hr5 hb5
                      go_wp2_with fail
                      go_roundg kq'
                      case measure => omega
                      case rel => exact ⟨k + 1, by rw [hwk], ⟨by have := HGK.out; omega⟩, HR5, HB5⟩
                  · rw [if_neg h9] at HRC
                    obtain rfl : x1 = 8 := by omega
                    clear h1 h8 e2 HEX h9
                    go_wp2_with fail
                    refine (HRC.out (by omega) _ (HBA.out _)).mono ?_
                    rintro e w5 ⟨rfl, hr5, hb5⟩
                    have HR5 := Aside0.mk hr5
                    have HB5 := Aside0.mk hb5
                    clear hr5 hb5
                    go_wp2_with fail
                    go_roundg kq'
                    case measure => omega
                    case rel => exact ⟨k + 1, by rw [hwk], ⟨by have := HGK.out; omega⟩, HR5, HB5⟩
            · rw [backS_2, backF_2] at HRC
              by_cases hm : x1 < 65535
              all_goals
                first | rw [if_pos hm] at HRC | rw [if_neg hm] at HRC
                first | have e2 : (x1 < 65535) = True := eq_true hm | have e2 : (x1 < 65535) = False := eq_false hm
                clear hm
                go_wp2_with fail
                refine (HRC.out (by omega) _ (HBA.out _)).mono ?_
                rintro e w5 ⟨rfl, hr5, hb5⟩
                have HR5 := Aside0.mk hr5
                have HB5 := Aside0.mk hb5
                clear hr5 hb5
                go_wp2_with fail
                go_roundg kq'
                case measure => omega
                case rel => exact ⟨k + 1, by rw [hwk], ⟨by have := HGK.out; omega⟩, HR5, HB5⟩
          · have e1 : decide ((k : Int) < l0.length) = false := decide_eq_false (by omega)
            obtain rfl : k = l0.length := by have := HGK.out; omega
            obtain ⟨N, Ar, cr, hrd⟩ := HRK.out
            rw [restW_end] at hrd
            have HEN := Aside0.mk (fun (W : World) (hb : Below wr.heap.size wr W) => end_calls W g N Ar cr [] 0 (hrd.below hb))
            clear hrd hwk HGK hlt
            go_wp2_with fail
            refine (nil_byte wr 1).mono ?_
            rintro e x1 ⟨rfl, hx1⟩
            have HX1 := Aside0.mk hx1
            clear hx1
            go_wp2_with fail
            refine (nil_text x1 ⟨#[97]⟩ (by decide)).mono ?_
            rintro e x2 ⟨rfl, hx2⟩
            have HX2 := Aside0.mk (below_step HX1.out hx2)
            clear hx2
            go_wp2_with fail
            refine (HEN.out x2 HX2.out).mono ?_
            rintro e x3 ⟨rfl, hd⟩
            have HX3 := Aside0.mk (below_step HX2.out hd.below)
            clear hd
            go_wp2_with fail
            refine (nil_out x3).mono ?_
            rintro e x4 ⟨rfl, rfl⟩
            go_wp2_with fail
            refine (nil_rbyte x3).mono ?_
            rintro e x5 ⟨rfl, hx5⟩
            have HX5 := Aside0.mk (below_step HX3.out hx5)
            clear hx5
            go_wp2_with fail
            refine (nil_rnumber x5 2).mono ?_
            rintro e x6 ⟨rfl, hx6⟩
            have HX6 := Aside0.mk (below_step HX5.out hx6)
            clear hx6
            go_wp2_with fail
            refine (nil_rbytes x6 9).mono ?_
            rintro e x7 ⟨rfl, hx7⟩
            have HX7 := Aside0.mk (below_step HX6.out hx7)
            clear hx7
            go_wp2_with fail
            refine (nil_left x7).mono ?_
            rintro e x8 ⟨rfl, rfl⟩
            go_wp2_with fail
            refine (nil_fault x7).mono ?_
            rintro e x9 ⟨rfl, rfl⟩
            go_wp2_with fail
            refine (nil_end x7).mono ?_
            rintro e xa ⟨rfl, rfl⟩
            go_wp2_with fail
            refine (alive_calls x7).mono ?_
            rintro e xb ⟨rfl, hxb⟩
            have HXB := Aside0.mk (below_step HBK.out (below_step HX7.out hxb))
            clear hxb
            go_wp2_with fail
            go_ret
            exact ⟨rfl, HXB.out⟩
end Go.Proofs.Ytbodefikbonjaaa.Q
