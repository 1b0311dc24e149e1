/- The least time of a way between two junctions, in both packages. -/
import Derived.Test.YtlilmopcikogpaaEsc1
namespace Go.Proofs.Ytlilmopcikogpaa
set_option linter.unusedVariables false
open Go.RowKit
def joins (a : Airway) (f t : Int) : Bool := (decide (a.frm = f) && decide (a.tt = t)) || (decide (a.frm = t) && decide (a.tt = f))
theorem joins_oth (a : Airway) (f t : Int) : joins a f t = (othB a f && decide (othV a f = t)) := by
  unfold joins othB othV
  by_cases h1 : a.frm = f <;> by_cases h2 : a.tt = f <;> by_cases h3 : a.tt = t <;> by_cases h4 : a.frm = t <;> simp_all
def takesB (a : Airway) (k : Nat) (bl f t sp b : Int) : Bool := !decide ((k : Int) = bl) && joins a f t && (decide (b < 0) || decide (walkI a sp < b))
def stepTo (ays : List Airway) (bl sp f t : Int) : Nat → Int
  | 0 => -1
  | k + 1 => match ays[k]? with
    | none => stepTo ays bl sp f t k
    | some a => if takesB a k bl f t sp (stepTo ays bl sp f t k) then walkI a sp else stepTo ays bl sp f t k
theorem stepTo_succ {ays : List Airway} {bl sp f t : Int} {k : Nat} (h : k < ays.length) : stepTo ays bl sp f t (k + 1) = if takesB ays[k] k bl f t sp (stepTo ays bl sp f t k) then walkI ays[k] sp else stepTo ays bl sp f t k := by
  show (match ays[k]? with | none => _ | some a => _) = _
  rw [List.getElem?_eq_getElem h]
theorem stepTo_no {ays : List Airway} {bl sp f t : Int} {k : Nat} (h : k < ays.length) (ht : takesB ays[k] k bl f t sp (stepTo ays bl sp f t k) = false) : stepTo ays bl sp f t (k + 1) = stepTo ays bl sp f t k := by rw [stepTo_succ h, ht]; rfl
theorem stepTo_yes {ays : List Airway} {bl sp f t : Int} {k : Nat} (h : k < ays.length) (ht : takesB ays[k] k bl f t sp (stepTo ays bl sp f t k) = true) : stepTo ays bl sp f t (k + 1) = walkI ays[k] sp := by rw [stepTo_succ h, ht]; rfl
theorem stepTo_bd {ays : List Airway} {bl sp f t : Int} (hA : ∀ a ∈ ays, airB a = true) (h1 : 10 ≤ sp) (h2 : sp ≤ 300) : ∀ k, k ≤ ays.length → -1 ≤ stepTo ays bl sp f t k ∧ stepTo ays bl sp f t k ≤ 1000299
  | 0, _ => by unfold stepTo; omega
  | k + 1, h => by
    have ih := stepTo_bd hA h1 h2 k (by omega) (bl := bl) (f := f) (t := t)
    have hw := walkI_bd (hA _ (List.getElem_mem (by omega : k < ays.length))) h1 h2
    rw [stepTo_succ (by omega)]
    split <;> omega
set_option maxRecDepth 100000 in
set_option maxHeartbeats 1000000 in
theorem l19Step (j : Int) (ays : List Airway) (bl sp f t : Int) (A0 : Option Addr) (c0 bm om lo hi : Nat) (w : World) (hm : MineAt w bm om j (.slice A0 ays.length c0)) (hv : Sl lo hi w 7 (.slice A0 ays.length c0) ays.length (flat Airway.enc ays)) (hA : ∀ a ∈ ays, airB a = true) (hl : ays.length ≤ 24) (h1 : 10 ≤ sp) (h2 : sp ≤ 300) :
    Calls Try.prog 54 #[.pointer (some ⟨bm, om, none⟩), .int .i64 bl, .int .i64 sp, .int .i64 f, .int .i64 t] w fun e w' => e = .returned (.int .i64 (stepTo ays bl sp f t ays.length)) ∧ w = w' := by
  obtain ⟨m0, m1⟩ := hm
  obtain ⟨hhi, _, A, c, he, hnc, hcm, hcell⟩ := hv
  simp only [Value.slice.injEq, true_and] at he
  obtain ⟨rfl, rfl⟩ := he
  go_enter Try.func54, Try.ntmps54
  go_wp2
  go_loop [11, 12] (fun u i => ∃ k : Nat, k ≤ ays.length ∧ i = .int .i64 k ∧ u = .int .i64 (stepTo ays bl sp f t k)) (fun _ i => ays.length - (intOf i).toNat)
  case atStart => exact ⟨0, Nat.zero_le _, rfl, rfl⟩
  case round =>
    obtain ⟨k, hk, rfl, rfl⟩ := hrel
    by_cases hlt : k < ays.length
    · obtain ⟨b, off, rfl, hb1, hb2, hc⟩ := hcell (by omega)
      have hat := Airway.at_of hc (Below.refl _ _) (by omega) k hlt
      have HAT := hid hat
      obtain ⟨d0, d1, d2, d3, d4, d5, d6⟩ := hat
      have ha := hA _ (List.getElem_mem hlt)
      have hki : (k : Int) < ays.length := by omega
      clear hc
      by_cases x0 : (k : Int) = bl
      · have bx0 : ((k : Int) == bl) = true := by simp [x0]
        have HZ := hid (stepTo_no hlt (show takesB ays[k] k bl f t sp (stepTo ays bl sp f t k) = false by unfold takesB joins; simp_all))
        clear x0
        generalize stepTo ays bl sp f t k = best at *
        go_wp2
        go_round
        case rel => exact ⟨k + 1, by omega, by go_num, vi HZ.out.symm⟩
        case measure => simp [intOf]; omega
      · have bx0 : ((k : Int) == bl) = false := by simp [x0]
        by_cases x1 : ays[k].frm = f
        · have bx1 : (ays[k].frm != f) = false := by simp [x1]
          by_cases x2 : ays[k].tt = t
          · have bx2 : (ays[k].tt != t) = false := by simp [x2]
            by_cases q1 : stepTo ays bl sp f t k < 0
            · have Q1 := hid q1
              have HZ := hid (stepTo_yes hlt (show takesB ays[k] k bl f t sp (stepTo ays bl sp f t k) = true by unfold takesB joins; simp_all))
              clear x0 x1 x2
              generalize stepTo ays bl sp f t k = best at *
              go_wp2_with (go_at_call 93; refine (l19Walk ays[k] sp _ _ _ ha h1 h2 HAT.out).mono ?_; rintro e w' ⟨rfl, rfl⟩)
              go_round
              case rel => exact ⟨k + 1, by omega, by go_num, vi HZ.out.symm⟩
              case measure => simp [intOf]; omega
            · by_cases q2 : walkI ays[k] sp < stepTo ays bl sp f t k
              · skip
                have HZ := hid (stepTo_yes hlt (show takesB ays[k] k bl f t sp (stepTo ays bl sp f t k) = true by unfold takesB joins; simp_all))
                clear x0 x1 x2
                generalize stepTo ays bl sp f t k = best at *
                go_wp2_with (go_at_call 93; refine (l19Walk ays[k] sp _ _ _ ha h1 h2 HAT.out).mono ?_; rintro e w' ⟨rfl, rfl⟩)
                go_round
                case rel => exact ⟨k + 1, by omega, by go_num, vi HZ.out.symm⟩
                case measure => simp [intOf]; omega
              · skip
                have HZ := hid (stepTo_no hlt (show takesB ays[k] k bl f t sp (stepTo ays bl sp f t k) = false by unfold takesB joins; simp_all))
                clear x0 x1 x2
                generalize stepTo ays bl sp f t k = best at *
                go_wp2_with (go_at_call 93; refine (l19Walk ays[k] sp _ _ _ ha h1 h2 HAT.out).mono ?_; rintro e w' ⟨rfl, rfl⟩)
                go_round
                case rel => exact ⟨k + 1, by omega, by go_num, vi HZ.out.symm⟩
                case measure => simp [intOf]; omega
          · have bx2 : (ays[k].tt != t) = true := by simp [x2]
            by_cases x3 : ays[k].frm = t
            · have bx3 : (ays[k].frm != t) = false := by simp [x3]
              by_cases x4 : ays[k].tt = f
              · have bx4 : (ays[k].tt != f) = false := by simp [x4]
                by_cases q1 : stepTo ays bl sp f t k < 0
                · have Q1 := hid q1
                  have HZ := hid (stepTo_yes hlt (show takesB ays[k] k bl f t sp (stepTo ays bl sp f t k) = true by unfold takesB joins; simp_all))
                  clear x0 x1 x2 x3 x4
                  generalize stepTo ays bl sp f t k = best at *
                  go_wp2_with (go_at_call 93; refine (l19Walk ays[k] sp _ _ _ ha h1 h2 HAT.out).mono ?_; rintro e w' ⟨rfl, rfl⟩)
                  go_round
                  case rel => exact ⟨k + 1, by omega, by go_num, vi HZ.out.symm⟩
                  case measure => simp [intOf]; omega
                · by_cases q2 : walkI ays[k] sp < stepTo ays bl sp f t k
                  · skip
                    have HZ := hid (stepTo_yes hlt (show takesB ays[k] k bl f t sp (stepTo ays bl sp f t k) = true by unfold takesB joins; simp_all))
                    clear x0 x1 x2 x3 x4
                    generalize stepTo ays bl sp f t k = best at *
                    go_wp2_with (go_at_call 93; refine (l19Walk ays[k] sp _ _ _ ha h1 h2 HAT.out).mono ?_; rintro e w' ⟨rfl, rfl⟩)
                    go_round
                    case rel => exact ⟨k + 1, by omega, by go_num, vi HZ.out.symm⟩
                    case measure => simp [intOf]; omega
                  · skip
                    have HZ := hid (stepTo_no hlt (show takesB ays[k] k bl f t sp (stepTo ays bl sp f t k) = false by unfold takesB joins; simp_all))
                    clear x0 x1 x2 x3 x4
                    generalize stepTo ays bl sp f t k = best at *
                    go_wp2_with (go_at_call 93; refine (l19Walk ays[k] sp _ _ _ ha h1 h2 HAT.out).mono ?_; rintro e w' ⟨rfl, rfl⟩)
                    go_round
                    case rel => exact ⟨k + 1, by omega, by go_num, vi HZ.out.symm⟩
                    case measure => simp [intOf]; omega
              · have bx4 : (ays[k].tt != f) = true := by simp [x4]
                have HZ := hid (stepTo_no hlt (show takesB ays[k] k bl f t sp (stepTo ays bl sp f t k) = false by unfold takesB joins; simp_all))
                clear x0 x1 x2 x3 x4
                generalize stepTo ays bl sp f t k = best at *
                go_wp2
                go_round
                case rel => exact ⟨k + 1, by omega, by go_num, vi HZ.out.symm⟩
                case measure => simp [intOf]; omega
            · have bx3 : (ays[k].frm != t) = true := by simp [x3]
              have HZ := hid (stepTo_no hlt (show takesB ays[k] k bl f t sp (stepTo ays bl sp f t k) = false by unfold takesB joins; simp_all))
              clear x0 x1 x2 x3
              generalize stepTo ays bl sp f t k = best at *
              go_wp2
              go_round
              case rel => exact ⟨k + 1, by omega, by go_num, vi HZ.out.symm⟩
              case measure => simp [intOf]; omega
        · have bx1 : (ays[k].frm != f) = true := by simp [x1]
          by_cases x3 : ays[k].frm = t
          · have bx3 : (ays[k].frm != t) = false := by simp [x3]
            by_cases x4 : ays[k].tt = f
            · have bx4 : (ays[k].tt != f) = false := by simp [x4]
              by_cases q1 : stepTo ays bl sp f t k < 0
              · have Q1 := hid q1
                have HZ := hid (stepTo_yes hlt (show takesB ays[k] k bl f t sp (stepTo ays bl sp f t k) = true by unfold takesB joins; simp_all))
                clear x0 x1 x3 x4
                generalize stepTo ays bl sp f t k = best at *
                go_wp2_with (go_at_call 93; refine (l19Walk ays[k] sp _ _ _ ha h1 h2 HAT.out).mono ?_; rintro e w' ⟨rfl, rfl⟩)
                go_round
                case rel => exact ⟨k + 1, by omega, by go_num, vi HZ.out.symm⟩
                case measure => simp [intOf]; omega
              · by_cases q2 : walkI ays[k] sp < stepTo ays bl sp f t k
                · skip
                  have HZ := hid (stepTo_yes hlt (show takesB ays[k] k bl f t sp (stepTo ays bl sp f t k) = true by unfold takesB joins; simp_all))
                  clear x0 x1 x3 x4
                  generalize stepTo ays bl sp f t k = best at *
                  go_wp2_with (go_at_call 93; refine (l19Walk ays[k] sp _ _ _ ha h1 h2 HAT.out).mono ?_; rintro e w' ⟨rfl, rfl⟩)
                  go_round
                  case rel => exact ⟨k + 1, by omega, by go_num, vi HZ.out.symm⟩
                  case measure => simp [intOf]; omega
                · skip
                  have HZ := hid (stepTo_no hlt (show takesB ays[k] k bl f t sp (stepTo ays bl sp f t k) = false by unfold takesB joins; simp_all))
                  clear x0 x1 x3 x4
                  generalize stepTo ays bl sp f t k = best at *
                  go_wp2_with (go_at_call 93; refine (l19Walk ays[k] sp _ _ _ ha h1 h2 HAT.out).mono ?_; rintro e w' ⟨rfl, rfl⟩)
                  go_round
                  case rel => exact ⟨k + 1, by omega, by go_num, vi HZ.out.symm⟩
                  case measure => simp [intOf]; omega
            · have bx4 : (ays[k].tt != f) = true := by simp [x4]
              have HZ := hid (stepTo_no hlt (show takesB ays[k] k bl f t sp (stepTo ays bl sp f t k) = false by unfold takesB joins; simp_all))
              clear x0 x1 x3 x4
              generalize stepTo ays bl sp f t k = best at *
              go_wp2
              go_round
              case rel => exact ⟨k + 1, by omega, by go_num, vi HZ.out.symm⟩
              case measure => simp [intOf]; omega
          · have bx3 : (ays[k].frm != t) = true := by simp [x3]
            have HZ := hid (stepTo_no hlt (show takesB ays[k] k bl f t sp (stepTo ays bl sp f t k) = false by unfold takesB joins; simp_all))
            clear x0 x1 x3
            generalize stepTo ays bl sp f t k = best at *
            go_wp2
            go_round
            case rel => exact ⟨k + 1, by omega, by go_num, vi HZ.out.symm⟩
            case measure => simp [intOf]; omega
    · obtain rfl : k = ays.length := by omega
      go_wp2
      go_ret
      exact ⟨rfl, rfl⟩
end Go.Proofs.Ytlilmopcikogpaa
