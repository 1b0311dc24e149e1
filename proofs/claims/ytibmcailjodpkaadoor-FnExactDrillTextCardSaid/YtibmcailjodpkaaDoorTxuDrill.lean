/- Texts of one Drill: the program's. -/
import Derived.Test.YtibmcailjodpkaaDoorTxtDrill
namespace Go.Proofs.YtibmcailjodpkaaDoor
set_option linter.unusedVariables false
open Go.RowKit
set_option maxRecDepth 100000 in
set_option maxHeartbeats 1000000 in
theorem implDrillText (x : Drill) (w : World) (hs : x.crew.size ≤ maxLen) (ht : tabP w) :
    Calls Tryd.prog 7 #[.agg #[.int .i64 x.day, .string x.crew, .int .i64 x.persons, .int .i64 x.seconds, .int .i64 x.missing]] w fun e w' => e = .returned (.string (drillR x)) ∧ Ext w w' := by
  have HT := hid ht
  clear ht
  have hg : Tryd.prog.globalNamed "internal/strconv.uint64pow10" = some 0 := by kernel_rfl
  have HG := hid hg
  clear hg
  cases hv : drillB x
  · have HR := hid (show drillR x = ⟨#[]⟩ by unfold drillR; rw [hv]; rfl)
    go_enter Tryd.func7, Tryd.ntmps7
    go_wp2_with fail
    generalize hA : World.alloc _ _ = B
    have hEB : Ext w B := by rw [← hA]; exact Ext.new _ _
    have hBk : Blk B w.heap.size 26 #[.int .i64 x.day, .string x.crew, .int .i64 x.persons, .int .i64 x.seconds, .int .i64 x.missing] := by rw [← hA]; exact Blk.new _ _ _
    clear hA
    refine (cv (drillI x _ hs) (vb hv)).mono ?_
    rintro e w1 ⟨rfl, hE1⟩
    go_wp2
    go_ret
    exact ⟨ret_str (by rw [HR.out]), Ext.tr hEB hE1⟩
  · have HR := hid (show drillR x = drillT x by unfold drillR; rw [hv]; rfl)
    obtain ⟨hok, hsz, hdd⟩ := drillB_bd hv
    have HOK := hid hok
    have htz := textT_size [x.persons, x.seconds, x.missing] (by simp) hok
    have hl : 0 < ([x.persons, x.seconds, x.missing] : List Int).length := by simp
    clear hok
    have hdz : (decT x.day).size ≤ 14 := dec_len _ hdd
    go_enter Tryd.func7, Tryd.ntmps7
    go_wp2_with fail
    generalize hA : World.alloc _ _ = B
    have hEB : Ext w B := by rw [← hA]; exact Ext.new _ _
    have hBk : Blk B w.heap.size 26 #[.int .i64 x.day, .string x.crew, .int .i64 x.persons, .int .i64 x.seconds, .int .i64 x.missing] := by rw [← hA]; exact Blk.new _ _ _
    clear hA
    refine (cv (drillI x _ hs) (vb hv)).mono ?_
    rintro e w1 ⟨rfl, hE1⟩
    have hE0 := Ext.tr hEB hE1
    have hBk1 := hBk.ext hE1
    have ha0 : ∀ W, Ext w1 W → W.cell? ⟨w.heap.size, 0, none⟩ = some (.int .i64 x.day) := fun W hW => (hBk1.ext hW).cell 0
    have ha1 : ∀ W, Ext w1 W → W.cell? ⟨w.heap.size, 1, none⟩ = some (.string x.crew) := fun W hW => (hBk1.ext hW).cell 1
    have ha2 : ∀ W, Ext w1 W → W.cell? ⟨w.heap.size, 2, none⟩ = some (.int .i64 x.persons) := fun W hW => (hBk1.ext hW).cell 2
    have ha3 : ∀ W, Ext w1 W → W.cell? ⟨w.heap.size, 3, none⟩ = some (.int .i64 x.seconds) := fun W hW => (hBk1.ext hW).cell 3
    have ha4 : ∀ W, Ext w1 W → W.cell? ⟨w.heap.size, 4, none⟩ = some (.int .i64 x.missing) := fun W hW => (hBk1.ext hW).cell 4
    have hadd0 : ∀ W, (Op.stringOp .add (decT x.day) (⟨#[32]⟩)).run Tryd.prog W = .ok (.string ((decT x.day) ++ (⟨#[32]⟩))) W := fun W => run_string_add_sum W _ _ (by have h1 : (⟨#[32]⟩ : ByteArray).size = 1 := rfl; (try simp only [ByteArray.size_append]); omega)
    have hadd1 : ∀ W, (Op.stringOp .add (decT x.day ++ ⟨#[32]⟩) (x.crew)).run Tryd.prog W = .ok (.string ((decT x.day ++ ⟨#[32]⟩) ++ (x.crew))) W := fun W => run_string_add_sum W _ _ (by have h1 : (⟨#[32]⟩ : ByteArray).size = 1 := rfl; (try simp only [ByteArray.size_append]); omega)
    have hadd2 : ∀ W, (Op.stringOp .add ((decT x.day ++ ⟨#[32]⟩) ++ x.crew) (⟨#[32]⟩)).run Tryd.prog W = .ok (.string (((decT x.day ++ ⟨#[32]⟩) ++ x.crew) ++ (⟨#[32]⟩))) W := fun W => run_string_add_sum W _ _ (by have h1 : (⟨#[32]⟩ : ByteArray).size = 1 := rfl; (try simp only [ByteArray.size_append]); omega)
    have hadd3 : ∀ W, (Op.stringOp .add (((decT x.day ++ ⟨#[32]⟩) ++ x.crew) ++ ⟨#[32]⟩) (textT [x.persons, x.seconds, x.missing])).run Tryd.prog W = .ok (.string ((((decT x.day ++ ⟨#[32]⟩) ++ x.crew) ++ ⟨#[32]⟩) ++ (textT [x.persons, x.seconds, x.missing]))) W := fun W => run_string_add_sum W _ _ (by have h1 : (⟨#[32]⟩ : ByteArray).size = 1 := rfl; (try simp only [ByteArray.size_append]); omega)
    have HTW := hid (fun W (hW : Ext w1 W) => tab_ext HG.out HT.out (Ext.tr hE0 hW))
    clear hBk hBk1
    go_wp2_with fail
    go_region_held3 (fun W => Ext w1 W) (first | assumption | exact Ext.drewN _ 1 | exact Ext.tr (by assumption) (Ext.new _ _) | exact Ext.tr (by assumption) hE2 | exact Ext.tr (by assumption) hE3) (first | (go_at_call 11; refine (decimal x.day _ hdd (HTW.out _ (by first | assumption | exact Ext.drewN _ 1 | exact Ext.tr (Ext.new _ _) (Ext.drewN _ 1) | exact Ext.tr (by assumption) (Ext.new _ _)))).mono ?_; rintro e w3 ⟨rfl, hE3⟩) | (go_at_call 12; (with_reducible refine (listText [x.persons, x.seconds, x.missing] _ _ _ _ ((slNew _ 2 [x.persons, x.seconds, x.missing] #[.int .i64 x.persons, .int .i64 x.seconds, .int .i64 x.missing] 3 rfl rfl (by simp)).ext (Ext.drew1 _)) hl (by simp) HOK.out (HTW.out _ (by first | assumption | exact Ext.drewN _ 1 | exact Ext.tr (Ext.new _ _) (Ext.drewN _ 1) | exact Ext.tr (by assumption) (Ext.new _ _)))).mono ?_); rintro e w2 ⟨rfl, hE2⟩) | (go_at_call 12; (with_reducible refine (listText [x.persons, x.seconds, x.missing] _ _ _ _ (slNew _ 2 [x.persons, x.seconds, x.missing] #[.int .i64 x.persons, .int .i64 x.seconds, .int .i64 x.missing] 3 rfl rfl (by simp)) hl (by simp) HOK.out (HTW.out _ (by first | assumption | exact Ext.drewN _ 1 | exact Ext.tr (Ext.new _ _) (Ext.drewN _ 1) | exact Ext.tr (by assumption) (Ext.new _ _)))).mono ?_); rintro e w2 ⟨rfl, hE2⟩) | (go_at_call 12; (with_reducible refine (listText [x.persons, x.seconds, x.missing] _ _ _ _ ((slNew _ 2 [x.persons, x.seconds, x.missing] #[.int .i64 x.persons, .int .i64 x.seconds, .int .i64 x.missing] 3 rfl rfl (by simp)).ext (Ext.tr (Ext.drew1 _) hE3)) hl (by simp) HOK.out (HTW.out _ (by first | assumption | exact Ext.drewN _ 1 | exact Ext.tr (Ext.new _ _) (Ext.drewN _ 1) | exact Ext.tr (by assumption) (Ext.new _ _)))).mono ?_); rintro e w2 ⟨rfl, hE2⟩))
    all_goals
      go_wp2
      go_ret
      exact ⟨ret_str (by rw [HR.out]; rfl), Ext.tr hE0 (by assumption)⟩
end Go.Proofs.YtibmcailjodpkaaDoor
