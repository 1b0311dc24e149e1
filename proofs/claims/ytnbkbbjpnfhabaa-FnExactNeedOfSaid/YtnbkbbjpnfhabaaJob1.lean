/- Contracts of the functions on one job: whether it is valid, its need, its size and its copy. -/
import Derived.Test.YtnbkbbjpnfhabaaBase
namespace Go.Proofs.Ytnbkbbjpnfhabaa
open Go.RowKit

def jobB (id : ByteArray) (a p q : Int) : Bool := nameB id && inB a 0 23 && inB p 1 40 && inB q 0 500
def jobNeed (p q : Int) : Int := 10 * p + 6 * q
def needOf (id : ByteArray) (a p q : Int) : Int × Int := if jobB id a p q then (jobNeed p q, 0) else (0, 1)

theorem l23One (b o : Nat) (id : ByteArray) (a p q : Int) (w : World) (hs : id.size ≤ maxLen)
    (c0 : w.cell? ⟨b, o, none⟩ = some (.string id)) (c1 : w.cell? ⟨b, o + 1, none⟩ = some (.int .i64 a)) (c2 : w.cell? ⟨b, o + 2, none⟩ = some (.int .i64 p)) (c3 : w.cell? ⟨b, o + 3, none⟩ = some (.int .i64 q)) :
    Calls Try.prog 33 #[.pointer (some ⟨b, o, none⟩)] w fun e w' => e = .returned (.bool (jobB id a p q)) ∧ w = w' := by
  go_enter Try.func33, Try.ntmps33
  go_wp2_with (first | (go_at_call 50; refine (l01Name _ _ hs).mono ?_; rintro e w' ⟨rfl, rfl⟩) | (go_at_call 42; refine (l00In _ _ _ _).mono ?_; rintro e w' ⟨rfl, rfl⟩))
  all_goals (go_ret; refine ⟨ret_bool ?_, rfl⟩; go_tidy; grind [jobB])

theorem jobValid (id : ByteArray) (a p q : Int) (w : World) (hs : id.size ≤ maxLen) :
    Calls Try.prog 35 #[.agg #[.string id, .int .i64 a, .int .i64 p, .int .i64 q]] w fun e w' => e = .returned (.bool (jobB id a p q)) ∧ Ext w w' := by
  go_enter Try.func35, Try.ntmps35
  go_wp2_with (first | (go_at_call 51; refine (isName _ _ hs).mono ?_; rintro e w' ⟨rfl, rfl⟩) | (go_at_call 44; refine (within _ _ _ _).mono ?_; rintro e w' ⟨rfl, rfl⟩))
  all_goals (go_ret; refine ⟨ret_bool ?_, by go_tidy; go_grown⟩; go_tidy; grind [jobB])

theorem jobB_bd {id : ByteArray} {a p q : Int} (h : jobB id a p q = true) : (0 ≤ a ∧ a ≤ 23) ∧ (1 ≤ p ∧ p ≤ 40) ∧ (0 ≤ q ∧ q ≤ 500) := by
  unfold jobB inB at h; simp at h; omega

theorem l23Need (b o : Nat) (p q : Int) (w : World) (hp : 1 ≤ p ∧ p ≤ 40) (hq : 0 ≤ q ∧ q ≤ 500)
    (c2 : w.cell? ⟨b, o + 2, none⟩ = some (.int .i64 p)) (c3 : w.cell? ⟨b, o + 3, none⟩ = some (.int .i64 q)) :
    Calls Try.prog 34 #[.pointer (some ⟨b, o, none⟩)] w fun e w' => e = .returned (.int .i64 (jobNeed p q)) ∧ ∃ n, w' = w.drewN n := by
  obtain ⟨hp1, hp2⟩ := hp
  obtain ⟨hq1, hq2⟩ := hq
  go_enter Try.func34, Try.ntmps34
  go_wp2_with fail
  go_quiet (fail)
  go_wp2
  go_ret
  exact ⟨rfl, _, rfl⟩

theorem jobNeedI (id : ByteArray) (a p q : Int) (w : World) (hp : 1 ≤ p ∧ p ≤ 40) (hq : 0 ≤ q ∧ q ≤ 500) :
    Calls Try.prog 36 #[.agg #[.string id, .int .i64 a, .int .i64 p, .int .i64 q]] w fun e w' => e = .returned (.int .i64 (jobNeed p q)) ∧ Ext w w' := by
  obtain ⟨hp1, hp2⟩ := hp
  obtain ⟨hq1, hq2⟩ := hq
  go_enter Try.func36, Try.ntmps36
  go_wp2
  go_ret
  exact ⟨rfl, by go_tidy; go_grown⟩

theorem specNeedOf (id : ByteArray) (a p q : Int) (w : World) (hs : id.size ≤ maxLen) :
    Calls Try.prog 14 #[.agg #[.string id, .int .i64 a, .int .i64 p, .int .i64 q]] w fun e w' => e = .returned (.tuple #[.int .i64 (needOf id a p q).1, .int .i64 (needOf id a p q).2]) ∧ Ext w w' := by
  cases hj : jobB id a p q
  · go_enter Try.func14, Try.ntmps14
    go_wp2_with (go_at_call 33; refine (l23One _ _ id a p q _ hs (by go_simp) (by go_simp) (by go_simp) (by go_simp)).mono ?_; rintro e w' ⟨rfl, rfl⟩)
    go_ret2
    exact ⟨by simp [needOf, hj], by go_tidy; go_grown⟩
  · have hb := jobB_bd hj
    go_enter Try.func14, Try.ntmps14
    go_wp2_with (first | (go_at_call 33; refine (l23One _ _ id a p q _ hs (by go_simp) (by go_simp) (by go_simp) (by go_simp)).mono ?_; rintro e w' ⟨rfl, rfl⟩) | (go_at_call 34; refine (l23Need _ _ p q _ hb.2.1 hb.2.2 (by go_simp) (by go_simp)).mono ?_; rintro e w' ⟨rfl, n, rfl⟩))
    go_ret2
    exact ⟨by simp [needOf, hj], (Below.alloc (Below.refl _ _) (Nat.le_refl _) _).trans ((Ext.drewN _ _).mono (by simp))⟩

theorem implNeedOf (id : ByteArray) (a p q : Int) (w : World) (hs : id.size ≤ maxLen) :
    Calls Try.prog 16 #[.agg #[.string id, .int .i64 a, .int .i64 p, .int .i64 q]] w fun e w' => e = .returned (.tuple #[.int .i64 (needOf id a p q).1, .int .i64 (needOf id a p q).2]) ∧ Ext w w' := by
  cases hj : jobB id a p q
  · go_enter Try.func16, Try.ntmps16
    go_wp2_with (go_at_call 35; refine (jobValid id a p q _ hs).mono ?_; rintro e w1 ⟨rfl, hE⟩; have hE1 : Ext w w1 := Ext.tr (by go_grown) hE; clear hE)
    go_ret2
    exact ⟨by simp [needOf, hj], hE1⟩
  · have hb := jobB_bd hj
    go_enter Try.func16, Try.ntmps16
    go_wp2_with (first | (go_at_call 35; refine (jobValid id a p q _ hs).mono ?_; rintro e w1 ⟨rfl, hE⟩; have hE1 : Ext w w1 := Ext.tr (by go_grown) hE; obtain ⟨hc, hf⟩ := bcell hE) | (go_at_call 36; refine (jobNeedI id a p q _ hb.2.1 hb.2.2).mono ?_; rintro e w2 ⟨rfl, hE2⟩))
    go_ret2
    exact ⟨by simp [needOf, hj], Ext.tr hE1 hE2⟩

theorem szJob (id : ByteArray) (a p q l : Int) (w : World) (hs : id.size ≤ maxLen) (hl : 0 ≤ l ∧ l ≤ 1048576) :
    Calls Try.prog 13 #[.agg #[.string id, .int .i64 a, .int .i64 p, .int .i64 q], .int .i64 l] w fun e w' => e = .returned (.int .i64 (szF l id.size)) ∧ Ext w w' := by
  obtain ⟨hl1, hl2⟩ := hl
  unfold maxLen at hs
  go_enter Try.func13, Try.ntmps13
  go_wp2
  all_goals (go_ret; refine ⟨ret_int ?_, by go_tidy; go_grown⟩; go_tidy; unfold szF; split <;> omega)

theorem toJob (id : ByteArray) (a p q : Int) (w : World) :
    Calls Try.prog 15 #[.agg #[.string id, .int .i64 a, .int .i64 p, .int .i64 q]] w fun e w' => e = .returned (.agg #[.string id, .int .i64 a, .int .i64 p, .int .i64 q]) ∧ Ext w w' := by
  go_enter Try.func15, Try.ntmps15
  go_wp2
  go_returns
  exact ⟨rfl, by go_tidy; go_grown⟩

theorem lawNeedOf (id : ByteArray) (a p q : Int) (w : World) (hs : id.size ≤ maxLen) :
    Calls Try.prog 5 #[.agg #[.string id, .int .i64 a, .int .i64 p, .int .i64 q]] w fun e w' => e = .returned (.bool true) ∧ Ext w w' := by
  by_cases hz : szF 1048576 id.size < 0
  · go_enter Try.func5, Try.ntmps5
    go_wp2_with (go_at_call 13; refine (szJob id a p q _ _ hs (by omega)).mono ?_; rintro e w1 ⟨rfl, hE⟩)
    go_ret
    exact ⟨rfl, Ext.tr (Ext.new _ _) hE⟩
  · go_enter Try.func5, Try.ntmps5
    go_wp2_with (first
      | (go_at_call 13; refine (szJob id a p q _ _ hs (by omega)).mono ?_; rintro e w1 ⟨rfl, hE⟩; obtain ⟨hc, hf⟩ := bcell hE)
      | (go_at_call 14; refine (specNeedOf id a p q _ hs).mono ?_; rintro e w2 ⟨rfl, hE2⟩; replace hE := Ext.tr hE hE2; clear hE2 hc hf; obtain ⟨hc, hf⟩ := bcell hE)
      | (go_at_call 16; refine (implNeedOf id a p q _ hs).mono ?_; rintro e w3 ⟨rfl, hE2⟩; replace hE := Ext.tr hE hE2; clear hE2 hc hf; obtain ⟨hc, hf⟩ := bcell hE)
      | (go_at_call 15; refine (toJob id a p q _).mono ?_; rintro e w4 ⟨rfl, hE2⟩; replace hE := Ext.tr hE hE2; clear hE2 hc hf; obtain ⟨hc, hf⟩ := bcell hE))
    go_ret
    exact ⟨rfl, Ext.tr (Ext.new _ _) hE⟩

end Go.Proofs.Ytnbkbbjpnfhabaa
