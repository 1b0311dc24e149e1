/- The program's order of two checks. -/
import Derived.Test.YtcocdigcmcpefaaLpdS
namespace Go.Proofs.Ytcocdigcmcpefaa
set_option linter.unusedVariables false
open Go.RowKit
theorem isNaN64 (a : Int) (w : World) : Calls Try.prog 70 #[.int .i64 a] w fun e w' => e = .returned (.bool false) ∧ w = w' := by
  go_enter Try.func70, Try.ntmps70
  go_wp2
  go_ret
  exact ⟨rfl, rfl⟩
def cmpZ (a b : Int) : Int := if a < b then -1 else if b < a then 1 else 0
theorem compare64 (a b : Int) (w : World) : Calls Try.prog 61 #[.int .i64 a, .int .i64 b] w fun e w' => e = .returned (.int .i64 (cmpZ a b)) ∧ w = w' := by
  go_enter Try.func61, Try.ntmps61
  go_wp2_with (go_at_call 70; refine (isNaN64 _ _).mono ?_; rintro e w' ⟨rfl, rfl⟩)
  all_goals (go_ret; refine ⟨ret_int ?_, rfl⟩; go_tidy; grind [cmpZ])
theorem cmpZ_lt {a b : Int} : cmpZ a b < 0 ↔ a < b := by
  unfold cmpZ
  split
  · simp_all
  · split <;> simp_all
set_option maxRecDepth 100000 in
set_option maxHeartbeats 1000000 in
theorem spreadCl (xs : List Check) (a b gl lo hi : Nat) (v : Value) (w : World) (hv : Sl lo hi w 3 v xs.length (flat Check.enc xs)) (hx : checksOkB xs = true) (ha : a < xs.length) (hb : b < xs.length) (hl : w.cell? ⟨gl, 0, none⟩ = some v) (hgl : gl < w.heap.size) :
    Calls Try.prog 60 #[.int .i64 a, .int .i64 b, .pointer (some ⟨gl, 0, none⟩)] w fun e w' => e = .returned (.int .i64 (cmpZ (at0 (duesOf xs) a) (at0 (duesOf xs) b))) ∧ Ext w w' := by
  obtain ⟨hhi, _, A, c, rfl, hnc, hcm, hcell⟩ := hv
  obtain ⟨bb, off, rfl, hb1, hb2, hc⟩ := hcell (by omega)
  have hbw : bb < w.heap.size := by omega
  have HA : Hid (∀ d : Later w, Check.At d.w bb (off + a * 3) xs[a]) := hid (fun d => Check.at_of hc d.h hbw a ha)
  have HB : Hid (∀ d : Later w, Check.At d.w bb (off + b * 3) xs[b]) := hid (fun d => Check.at_of hc d.h hbw b hb)
  have a0 : ∀ d : Later w, d.w.cell? ⟨bb, off + a * 3, none⟩ = some (.string xs[a].id) := fun d => (HA.out d).1
  have a1 : ∀ d : Later w, d.w.cell? ⟨bb, off + a * 3 + 1, none⟩ = some (.int .i64 xs[a].every) := fun d => (HA.out d).2.1
  have a2 : ∀ d : Later w, d.w.cell? ⟨bb, off + a * 3 + 2, none⟩ = some (.int .i64 xs[a].last) := fun d => (HA.out d).2.2
  have b0 : ∀ d : Later w, d.w.cell? ⟨bb, off + b * 3, none⟩ = some (.string xs[b].id) := fun d => (HB.out d).1
  have b1 : ∀ d : Later w, d.w.cell? ⟨bb, off + b * 3 + 1, none⟩ = some (.int .i64 xs[b].every) := fun d => (HB.out d).2.1
  have b2 : ∀ d : Later w, d.w.cell? ⟨bb, off + b * 3 + 2, none⟩ = some (.int .i64 xs[b].last) := fun d => (HB.out d).2.2
  have l0 : ∀ d : Later w, d.w.cell? ⟨gl, 0, none⟩ = some (.slice (some ⟨bb, off, none⟩) xs.length c) := fun d => (d.h.cell (p := ⟨gl, 0, none⟩) hgl).trans hl
  have hba := checksOkB_p hx a ha
  have hbb := checksOkB_p hx b hb
  have HR := hid (show cmpZ (at0 (duesOf xs) a) (at0 (duesOf xs) b) = cmpZ (xs[a].last + xs[a].every) (xs[b].last + xs[b].every) by rw [dues_at ha, dues_at hb])
  clear hc hcell hl
  go_enter Try.func60, Try.ntmps60
  go_wp2_with fail
  refine wp_region_later w (by kernel_rfl) (by kernel_rfl) (Below.refl _ _) ?_
  repeat (go_big_quiet_step ((first | (go_at_call 39; first | with_reducible exact ql (checkDue xs[a].id xs[a].every xs[a].last _ hba.1 hba.2) rfl | with_reducible exact ql (checkDue xs[b].id xs[b].every xs[b].last _ hbb.1 hbb.2) rfl) | (go_at_call 61; exact qls (compare64 _ _ _) rfl))))
  refine wpQuiet_nil ?_
  rintro _ ⟨d, rfl⟩
  go_wp2
  go_ret
  exact ⟨by rw [HR.out]; rfl, d.h⟩
end Go.Proofs.Ytcocdigcmcpefaa
