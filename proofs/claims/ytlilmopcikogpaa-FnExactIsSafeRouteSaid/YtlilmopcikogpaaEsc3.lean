/- The program's least time of a way between two junctions. -/
import Derived.Test.YtlilmopcikogpaaEsc2
namespace Go.Proofs.Ytlilmopcikogpaa
set_option linter.unusedVariables false
open Go.RowKit
theorem takes_oth (a : Airway) (k : Nat) (bl f t sp b : Int) : takesB a k bl f t sp b = (othB a f && decide (othV a f = t) && !decide ((k : Int) = bl) && (decide (b < 0) || decide (walkI a sp < b))) := by
  unfold takesB; rw [joins_oth]
  cases othB a f <;> cases decide (othV a f = t) <;> cases decide ((k : Int) = bl) <;> simp
theorem otherT (a : Airway) (n : Int) (w : World) {b : Bool} (hb : othB a n = b) :
    Calls Try.prog 97 #[.agg #[.string a.id, .int .i64 a.frm, .int .i64 a.tt, .int .i64 a.leng, .int .i64 a.sec, .int .i64 a.fric, .int .i64 a.shock], .int .i64 n] w fun e w' => e = .returned (.tuple #[.int .i64 (othV a n), .bool b]) ∧ Ext w w' := by
  subst hb; exact otherI a n w
set_option maxRecDepth 100000 in
set_option maxHeartbeats 2000000 in
theorem betweenI (j : Int) (ays : List Airway) (vArr : Value) (bl sp f t : Int) (A0 : Option Addr) (c0 lo hi : Nat) (w : World) (hv : Sl lo hi w 7 (.slice A0 ays.length c0) ays.length (flat Airway.enc ays)) (hA : ∀ a ∈ ays, airB a = true) (hl : ays.length ≤ 24) (h1 : 10 ≤ sp) (h2 : sp ≤ 300) :
    Calls Try.prog 58 #[.agg #[.int .i64 j, .slice A0 ays.length c0, vArr, .int .i64 bl], .int .i64 f, .int .i64 t, .int .i64 sp] w fun e w' => e = .returned (.tuple #[.int .i64 (stepTo ays bl sp f t ays.length), .bool (decide (0 ≤ stepTo ays bl sp f t ays.length))]) ∧ Ext w w' := by
  have hv0 := hv
  obtain ⟨hhi, _, A, c, he, hnc, hcm, hcell⟩ := hv0
  simp only [Value.slice.injEq, true_and] at he
  obtain ⟨rfl, rfl⟩ := he
  go_enter Try.func58, Try.ntmps58
  go_wp2_with fail
  generalize hG : World.alloc _ _ = wz
  have hE1 : Ext w wz := by rw [← hG]; exact Ext.new _ _
  have ga : ∀ W, Ext wz W → W.cell? ⟨w.heap.size, 1, none⟩ = some (.slice A0 ays.length c0) := fun W hW => (hW.cell (p := ⟨w.heap.size, 1, none⟩) (by rw [← hG]; simp)).trans (by rw [← hG]; simp)
  have gb : ∀ W, Ext wz W → W.cell? ⟨w.heap.size, 3, none⟩ = some (.int .i64 bl) := fun W hW => (hW.cell (p := ⟨w.heap.size, 3, none⟩) (by rw [← hG]; simp)).trans (by rw [← hG]; simp)
  clear hG
  have g0 := ga wz (Below.refl _ _)
  go_wp2
  clear g0
  go_loopw [10, 20] (fun u i wr => ∃ k : Nat, k ≤ ays.length ∧ i = .int .i64 k ∧ u = .int .i64 (stepTo ays bl sp f t k) ∧ Ext wz wr) (fun _ i _ => ays.length - (intOf i).toNat)
  case atStart => exact ⟨0, Nat.zero_le _, rfl, rfl, Below.refl _ _⟩
  case round =>
    obtain ⟨k, hk, rfl, rfl, hE⟩ := hrel
    by_cases hlt : k < ays.length
    · obtain ⟨b, off, rfl, hb1, hb2, hc⟩ := hcell (by omega)
      have hE3 := Ext.tr hE1 hE
      have hz3 := hE3.size
      have hbw : b < w.heap.size := by omega
      have hbr : b < wr.heap.size := by omega
      have hat := Airway.at_of hc hE3 hbw k hlt
      obtain ⟨d0, d1, d2, d3, d4, d5, d6⟩ := hat
      have ha := hA _ (List.getElem_mem hlt)
      have hki : (k : Int) < ays.length := by omega
      have GA := hid ga
      have HC := hid hc
      have GB := hid gb
      have hbl : ∀ W, Ext wr W → W.cell? ⟨w.heap.size, 3, none⟩ = some (.int .i64 bl) := fun W hW => gb W (Ext.tr hE hW)
      have HT := hid (takes_oth ays[k] k bl f t sp (stepTo ays bl sp f t k))
      clear hc ga gb
      cases x1 : othB ays[k] f
      · have HZ := hid (stepTo_no hlt (show takesB ays[k] k bl f t sp (stepTo ays bl sp f t k) = false by rw [HT.out, x1]; simp))
        generalize stepTo ays bl sp f t k = best at *
        go_wp2_with (first | (go_at_call 97; refine (otherT ays[k] f _ x1).mono ?_; rintro e w4 ⟨rfl, hE4⟩; have HB := (Blk.new wr _ _).ext hE4; have n0 : w4.cell? ⟨wr.heap.size, 0, none⟩ = some (.string ays[k].id) := HB.cell 0; have n1 : w4.cell? ⟨wr.heap.size, 1, none⟩ = some (.int .i64 ays[k].frm) := HB.cell 1; have n2 : w4.cell? ⟨wr.heap.size, 2, none⟩ = some (.int .i64 ays[k].tt) := HB.cell 2; have n3 : w4.cell? ⟨wr.heap.size, 3, none⟩ = some (.int .i64 ays[k].leng) := HB.cell 3; have n4 : w4.cell? ⟨wr.heap.size, 4, none⟩ = some (.int .i64 ays[k].sec) := HB.cell 4; have n5 : w4.cell? ⟨wr.heap.size, 5, none⟩ = some (.int .i64 ays[k].fric) := HB.cell 5; have n6 : w4.cell? ⟨wr.heap.size, 6, none⟩ = some (.int .i64 ays[k].shock) := HB.cell 6; clear HB) | (go_at_call 98; refine (walkTimeI ays[k] sp _ ha h1 h2).mono ?_; rintro e w5 ⟨rfl, hE5⟩; have hbl5 := hbl _ (Ext.tr (Ext.tr (Ext.new _ _) hE4) hE5)))
        go_roundw
        case rel => exact ⟨k + 1, by omega, by go_num, vi HZ.out.symm, Ext.tr hE (Ext.tr (Ext.tr (Ext.new _ _) hE4) hE5)⟩
        case measure => simp [intOf]; omega
      · by_cases x2 : othV ays[k] f = t
        · have bx2 : (othV ays[k] f == t) = true := by simp [x2]
          by_cases x3 : (k : Int) = bl
          · have bx3 : ((k : Int) != bl) = false := by simp [x3]
            have HZ := hid (stepTo_no hlt (show takesB ays[k] k bl f t sp (stepTo ays bl sp f t k) = false by rw [HT.out]; simp [x3]))
            clear x2 x3
            generalize stepTo ays bl sp f t k = best at *
            go_wp2_with (first | (go_at_call 97; refine (otherT ays[k] f _ x1).mono ?_; rintro e w4 ⟨rfl, hE4⟩; have HB := (Blk.new wr _ _).ext hE4; have n0 : w4.cell? ⟨wr.heap.size, 0, none⟩ = some (.string ays[k].id) := HB.cell 0; have n1 : w4.cell? ⟨wr.heap.size, 1, none⟩ = some (.int .i64 ays[k].frm) := HB.cell 1; have n2 : w4.cell? ⟨wr.heap.size, 2, none⟩ = some (.int .i64 ays[k].tt) := HB.cell 2; have n3 : w4.cell? ⟨wr.heap.size, 3, none⟩ = some (.int .i64 ays[k].leng) := HB.cell 3; have n4 : w4.cell? ⟨wr.heap.size, 4, none⟩ = some (.int .i64 ays[k].sec) := HB.cell 4; have n5 : w4.cell? ⟨wr.heap.size, 5, none⟩ = some (.int .i64 ays[k].fric) := HB.cell 5; have n6 : w4.cell? ⟨wr.heap.size, 6, none⟩ = some (.int .i64 ays[k].shock) := HB.cell 6; clear HB) | (go_at_call 98; refine (walkTimeI ays[k] sp _ ha h1 h2).mono ?_; rintro e w5 ⟨rfl, hE5⟩; have hbl5 := hbl _ (Ext.tr (Ext.tr (Ext.new _ _) hE4) hE5)))
            go_roundw
            case rel => exact ⟨k + 1, by omega, by go_num, vi HZ.out.symm, Ext.tr hE (Ext.tr (Ext.tr (Ext.new _ _) hE4) hE5)⟩
            case measure => simp [intOf]; omega
          · have bx3 : ((k : Int) != bl) = true := by simp [x3]
            by_cases q1 : stepTo ays bl sp f t k < 0
            · have HZ := hid (stepTo_yes hlt (show takesB ays[k] k bl f t sp (stepTo ays bl sp f t k) = true by rw [HT.out]; simp [x1, x2, x3, q1]))
              clear x2 x3
              generalize stepTo ays bl sp f t k = best at *
              go_wp2_with (first | (go_at_call 97; refine (otherT ays[k] f _ x1).mono ?_; rintro e w4 ⟨rfl, hE4⟩; have HB := (Blk.new wr _ _).ext hE4; have n0 : w4.cell? ⟨wr.heap.size, 0, none⟩ = some (.string ays[k].id) := HB.cell 0; have n1 : w4.cell? ⟨wr.heap.size, 1, none⟩ = some (.int .i64 ays[k].frm) := HB.cell 1; have n2 : w4.cell? ⟨wr.heap.size, 2, none⟩ = some (.int .i64 ays[k].tt) := HB.cell 2; have n3 : w4.cell? ⟨wr.heap.size, 3, none⟩ = some (.int .i64 ays[k].leng) := HB.cell 3; have n4 : w4.cell? ⟨wr.heap.size, 4, none⟩ = some (.int .i64 ays[k].sec) := HB.cell 4; have n5 : w4.cell? ⟨wr.heap.size, 5, none⟩ = some (.int .i64 ays[k].fric) := HB.cell 5; have n6 : w4.cell? ⟨wr.heap.size, 6, none⟩ = some (.int .i64 ays[k].shock) := HB.cell 6; clear HB) | (go_at_call 98; refine (walkTimeI ays[k] sp _ ha h1 h2).mono ?_; rintro e w5 ⟨rfl, hE5⟩; have hbl5 := hbl _ (Ext.tr (Ext.tr (Ext.new _ _) hE4) hE5)))
              go_roundw
              case rel => exact ⟨k + 1, by omega, by go_num, vi HZ.out.symm, Ext.tr hE (Ext.tr (Ext.tr (Ext.new _ _) hE4) hE5)⟩
              case measure => simp [intOf]; omega
            · by_cases q2 : walkI ays[k] sp < stepTo ays bl sp f t k
              · have HZ := hid (stepTo_yes hlt (show takesB ays[k] k bl f t sp (stepTo ays bl sp f t k) = true by rw [HT.out]; simp [x1, x2, x3, q2]))
                clear x2 x3
                generalize stepTo ays bl sp f t k = best at *
                go_wp2_with (first | (go_at_call 97; refine (otherT ays[k] f _ x1).mono ?_; rintro e w4 ⟨rfl, hE4⟩; have HB := (Blk.new wr _ _).ext hE4; have n0 : w4.cell? ⟨wr.heap.size, 0, none⟩ = some (.string ays[k].id) := HB.cell 0; have n1 : w4.cell? ⟨wr.heap.size, 1, none⟩ = some (.int .i64 ays[k].frm) := HB.cell 1; have n2 : w4.cell? ⟨wr.heap.size, 2, none⟩ = some (.int .i64 ays[k].tt) := HB.cell 2; have n3 : w4.cell? ⟨wr.heap.size, 3, none⟩ = some (.int .i64 ays[k].leng) := HB.cell 3; have n4 : w4.cell? ⟨wr.heap.size, 4, none⟩ = some (.int .i64 ays[k].sec) := HB.cell 4; have n5 : w4.cell? ⟨wr.heap.size, 5, none⟩ = some (.int .i64 ays[k].fric) := HB.cell 5; have n6 : w4.cell? ⟨wr.heap.size, 6, none⟩ = some (.int .i64 ays[k].shock) := HB.cell 6; clear HB) | (go_at_call 98; refine (walkTimeI ays[k] sp _ ha h1 h2).mono ?_; rintro e w5 ⟨rfl, hE5⟩; have hbl5 := hbl _ (Ext.tr (Ext.tr (Ext.new _ _) hE4) hE5)))
                go_roundw
                case rel => exact ⟨k + 1, by omega, by go_num, vi HZ.out.symm, Ext.tr hE (Ext.tr (Ext.tr (Ext.new _ _) hE4) hE5)⟩
                case measure => simp [intOf]; omega
              · have HZ := hid (stepTo_no hlt (show takesB ays[k] k bl f t sp (stepTo ays bl sp f t k) = false by rw [HT.out]; simp [x1, x2, x3, q2]; omega))
                clear x2 x3
                generalize stepTo ays bl sp f t k = best at *
                go_wp2_with (first | (go_at_call 97; refine (otherT ays[k] f _ x1).mono ?_; rintro e w4 ⟨rfl, hE4⟩; have HB := (Blk.new wr _ _).ext hE4; have n0 : w4.cell? ⟨wr.heap.size, 0, none⟩ = some (.string ays[k].id) := HB.cell 0; have n1 : w4.cell? ⟨wr.heap.size, 1, none⟩ = some (.int .i64 ays[k].frm) := HB.cell 1; have n2 : w4.cell? ⟨wr.heap.size, 2, none⟩ = some (.int .i64 ays[k].tt) := HB.cell 2; have n3 : w4.cell? ⟨wr.heap.size, 3, none⟩ = some (.int .i64 ays[k].leng) := HB.cell 3; have n4 : w4.cell? ⟨wr.heap.size, 4, none⟩ = some (.int .i64 ays[k].sec) := HB.cell 4; have n5 : w4.cell? ⟨wr.heap.size, 5, none⟩ = some (.int .i64 ays[k].fric) := HB.cell 5; have n6 : w4.cell? ⟨wr.heap.size, 6, none⟩ = some (.int .i64 ays[k].shock) := HB.cell 6; clear HB) | (go_at_call 98; refine (walkTimeI ays[k] sp _ ha h1 h2).mono ?_; rintro e w5 ⟨rfl, hE5⟩; have hbl5 := hbl _ (Ext.tr (Ext.tr (Ext.new _ _) hE4) hE5)))
                go_roundw
                case rel => exact ⟨k + 1, by omega, by go_num, vi HZ.out.symm, Ext.tr hE (Ext.tr (Ext.tr (Ext.new _ _) hE4) hE5)⟩
                case measure => simp [intOf]; omega
        · have bx2 : (othV ays[k] f == t) = false := by simp [x2]
          have HZ := hid (stepTo_no hlt (show takesB ays[k] k bl f t sp (stepTo ays bl sp f t k) = false by rw [HT.out]; simp [x2]))
          clear x2
          generalize stepTo ays bl sp f t k = best at *
          go_wp2_with (first | (go_at_call 97; refine (otherT ays[k] f _ x1).mono ?_; rintro e w4 ⟨rfl, hE4⟩; have HB := (Blk.new wr _ _).ext hE4; have n0 : w4.cell? ⟨wr.heap.size, 0, none⟩ = some (.string ays[k].id) := HB.cell 0; have n1 : w4.cell? ⟨wr.heap.size, 1, none⟩ = some (.int .i64 ays[k].frm) := HB.cell 1; have n2 : w4.cell? ⟨wr.heap.size, 2, none⟩ = some (.int .i64 ays[k].tt) := HB.cell 2; have n3 : w4.cell? ⟨wr.heap.size, 3, none⟩ = some (.int .i64 ays[k].leng) := HB.cell 3; have n4 : w4.cell? ⟨wr.heap.size, 4, none⟩ = some (.int .i64 ays[k].sec) := HB.cell 4; have n5 : w4.cell? ⟨wr.heap.size, 5, none⟩ = some (.int .i64 ays[k].fric) := HB.cell 5; have n6 : w4.cell? ⟨wr.heap.size, 6, none⟩ = some (.int .i64 ays[k].shock) := HB.cell 6; clear HB) | (go_at_call 98; refine (walkTimeI ays[k] sp _ ha h1 h2).mono ?_; rintro e w5 ⟨rfl, hE5⟩; have hbl5 := hbl _ (Ext.tr (Ext.tr (Ext.new _ _) hE4) hE5)))
          go_roundw
          case rel => exact ⟨k + 1, by omega, by go_num, vi HZ.out.symm, Ext.tr hE (Ext.tr (Ext.tr (Ext.new _ _) hE4) hE5)⟩
          case measure => simp [intOf]; omega
    · obtain rfl : k = ays.length := by omega
      go_wp2
      go_ret2
      exact ⟨rfl, Ext.tr hE1 hE⟩
end Go.Proofs.Ytlilmopcikogpaa
