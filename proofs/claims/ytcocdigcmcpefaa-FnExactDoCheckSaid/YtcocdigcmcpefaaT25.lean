/- Contracts of DoCheck in both packages. -/
import Derived.Test.YtcocdigcmcpefaaD25
import Derived.Test.YtcocdigcmcpefaaAppN
import Derived.Test.YtcocdigcmcpefaaAnyL
import Derived.Test.YtcocdigcmcpefaaFind
import Derived.Laws.OwnMore
import Derived.Lib.SliceRun
namespace Go.Proofs.Ytcocdigcmcpefaa
set_option linter.unusedVariables false
open Go.RowKit
theorem l25Find (xs : List Check) (id : ByteArray) (lo hi : Nat) (v : Value) (w : World) (hv : Sl lo hi w 3 v xs.length (flat Check.enc xs)) (hn : xs.length ≤ 1048576) :
    Calls Try.prog 43 #[v, .string id] w fun e w' => e = .returned (.int .i64 (findIx (fun x => decide (x.id.toList = id.toList)) xs)) ∧ w = w' := by
  obtain ⟨hhi, _, A, c, rfl, hnc, hcm, hcell⟩ := hv
  go_enter Try.func43, Try.ntmps43
  go_wp2
  go_loop [5] (fun i => ∃ k : Nat, k ≤ xs.length ∧ i = .int .i64 k ∧ Hid (∀ j (h : j < xs.length), j < k → (fun x => decide (x.id.toList = id.toList)) xs[j] = false)) (fun i => xs.length - (intOf i).toNat)
  case atStart => exact ⟨0, by omega, rfl, hid (fun j h hj => absurd hj (by omega))⟩
  case round =>
    obtain ⟨k, hk, rfl, hall⟩ := hrel
    by_cases hlt : k < xs.length
    · obtain ⟨b, off, rfl, hb1, hb2, hc⟩ := hcell (by omega)
      obtain ⟨c0, c1, c2⟩ := Check.cells hc k hlt
      clear hc
      by_cases hd : xs[k].id.toList = id.toList
      · have HQ := hid (findIx_yes (p := fun x => decide (x.id.toList = id.toList)) k hlt (fun j h => hall.out j (by omega) h) (by simpa using hd))
        have hdb : (xs[k].id.toList == id.toList) = true := by simp [hd]
        rw [strInj hd] at c0
        go_wp2
        go_ret
        exact ⟨ret_int HQ.out.symm, rfl⟩
      · have hdb : (xs[k].id.toList == id.toList) = false := by simp [hd]
        have hdn : ¬ xs[k].id = id := fun h => hd (by rw [h])
        go_wp2
        go_round
        case rel => exact ⟨k + 1, by omega, by go_num, hid (fun j h hj => by rcases Nat.lt_succ_iff_lt_or_eq.1 hj with h1 | rfl; exact hall.out j h h1; simpa using hd)⟩
        case measure => simp [intOf]; omega
    · obtain rfl : k = xs.length := by omega
      go_wp2
      go_ret
      exact ⟨ret_int (findIx_no fun j h => hall.out j h h).symm, rfl⟩
theorem doCl (g : Nat) (id : ByteArray) (x : Check) (w : World) (hg : w.cell? ⟨g, 0, none⟩ = some (.string id)) (hgl : g < w.heap.size) :
    Calls Try.prog 45 #[.agg #[.string x.id, .int .i64 x.every, .int .i64 x.last], .pointer (some ⟨g, 0, none⟩)] w fun e w' => e = .returned (.bool (decide (x.id.toList = id.toList))) ∧ Ext w w' := by
  by_cases hd : x.id.toList = id.toList
  · have hdb : (x.id.toList == id.toList) = true := by simp [hd]
    have HD := hid hd
    rw [strInj hd]
    clear hd hdb
    go_enter Try.func45, Try.ntmps45
    go_wp2
    go_ret
    exact ⟨ret_bool (by simp), by go_tidy; go_grown⟩
  · have hdb : (x.id.toList == id.toList) = false := by simp [hd]
    have hdn : ¬ x.id = id := fun h => hd (by rw [h])
    go_enter Try.func45, Try.ntmps45
    go_wp2
    go_ret
    exact ⟨ret_bool (by simp [hd]), by go_tidy; go_grown⟩
theorem idxEChk (g : Nat) (id : ByteArray) (xs : List Check) (lo hi : Nat) (v : Value) (w : World) (hg : w.cell? ⟨g, 0, none⟩ = some (.string id)) (hgl : g < w.heap.size) (hv : Sl lo hi w 3 v xs.length (flat Check.enc xs)) (hn : xs.length ≤ 1048576) :
    Calls Try.prog 44 #[v, .func (.func 45) #[] #[.pointer (some ⟨g, 0, none⟩)]] w fun e w' => e = .returned (.int .i64 (findIx (fun x => decide (x.id.toList = id.toList)) xs)) ∧ Ext w w' := by
  obtain ⟨hhi, _, A, c, rfl, hnc, hcm, hcell⟩ := hv
  go_enter Try.func44, Try.ntmps44
  go_wp2
  go_loopw [8] (fun i wr => ∃ k : Nat, k ≤ xs.length ∧ i = .int .i64 k ∧ Hid (∀ j (h : j < xs.length), j < k → (fun x => decide (x.id.toList = id.toList)) xs[j] = false) ∧ Ext w wr) (fun i _ => xs.length - (intOf i).toNat)
  case atStart => exact ⟨0, Nat.zero_le _, rfl, hid (fun j h hj => absurd hj (by omega)), Below.refl _ _⟩
  case round =>
    obtain ⟨k, hk, rfl, hall, hE⟩ := hrel
    by_cases hlt : k < xs.length
    · obtain ⟨b', off, rfl, hb1, hb2, hc⟩ := hcell (by omega)
      obtain ⟨cc0, cc1, cc2⟩ := Check.cells hc k hlt
      clear hc
      have hcc := (bcell hE).1
      have hbw : b' < w.heap.size := by omega
      skip
      cases hp : (fun x => decide (x.id.toList = id.toList)) xs[k]
      all_goals have hp2 : (decide (xs[k].id.toList = id.toList)) = _ := hp
      · go_wp2_with (go_at_call 45; refine (cv (doCl g id xs[k] _ (((bcell hE).1 _ _ hgl).trans hg) (Nat.lt_of_lt_of_le hgl hE.size)) (vb hp2)).mono ?_; rintro e w2 ⟨rfl, hE2⟩)
        go_roundw
        case rel => exact ⟨k + 1, by omega, by go_num, hid (fun j h hj => by rcases Nat.lt_succ_iff_lt_or_eq.1 hj with h1 | rfl; exact hall.out j h h1; exact hp), Ext.tr hE hE2⟩
        case measure => simp [intOf]; omega
      · go_wp2_with (go_at_call 45; refine (cv (doCl g id xs[k] _ (((bcell hE).1 _ _ hgl).trans hg) (Nat.lt_of_lt_of_le hgl hE.size)) (vb hp2)).mono ?_; rintro e w2 ⟨rfl, hE2⟩)
        go_ret
        exact ⟨ret_int (findIx_yes k hlt (fun j h => hall.out j (by omega) h) hp).symm, Ext.tr hE hE2⟩
    · obtain rfl : k = xs.length := by omega
      go_wp2
      go_ret
      exact ⟨ret_int (findIx_no fun j h => hall.out j h h).symm, hE⟩

theorem infoChk : (Try.prog.info? 50).map (fun i => (i.zero, i.size, i.bytes)) = some (some (.agg #[.string ⟨#[]⟩, .int .i64 0, .int .i64 0]), 3, 32) := by kernel_rfl
theorem check_one (xs : List Check) : ∀ y ∈ flat Check.enc xs, y.oneCell' = true := flat_one (fun x y hy => by
  simp only [Check.enc, List.mem_cons, List.not_mem_nil, or_false] at hy
  rcases hy with rfl | rfl | rfl <;> rfl) xs
set_option maxRecDepth 100000 in
set_option maxHeartbeats 1000000 in
theorem cloneChk (xs : List Check) (lo hi : Nat) (v : Value) (w : World) (hv : Sl lo hi w 3 v xs.length (flat Check.enc xs)) (hsh : Shape v xs.length) (hn : xs.length ≤ 1048576) :
    Calls Try.prog 46 #[v] w fun e w' => (∃ v', e = .returned v' ∧ w'.ownsRow w.heap.size 50 3 v' xs.length (flat Check.enc xs)) ∧ Ext w w' := by
  have hv0 := hv
  obtain ⟨_, hl, A, c, he, _, _, _⟩ := hv0
  rcases hsh with rfl | ⟨b, off, c', rfl⟩
  · simp only [Value.slice.injEq] at he
    obtain ⟨rfl, h0, rfl⟩ := he
    have h1 : flat Check.enc xs = [] := List.eq_nil_of_length_eq_zero (by omega)
    have HL := hid h0
    have H1 := hid h1
    clear h0 h1
    have qT : ∀ (w : World) (a : Option Addr) (n c n' c' : Nat), (binOp .eql 25 (.slice a n c) (.slice none n' c')).run Try.prog w = .ok (.bool a.isNone) w := fun w a n c n' c' => Lib.run_eql_slice_nil w _ _ a n c n' c' Try.underlying25
    go_enter Try.func46, Try.ntmps46
    go_wp2
    go_ret
    exact ⟨⟨_, rfl, by rw [H1.out, ← HL.out]; exact World.ownsRow_nil _ _ _ _⟩, Below.refl _ _⟩
  · have hsh : Shape (.slice (some ⟨b, off, none⟩) xs.length c') xs.length := .inr ⟨b, off, c', rfl⟩
    clear he
    have qT : ∀ (w : World) (a : Option Addr) (n c n' c' : Nat), (binOp .eql 25 (.slice a n c) (.slice none n' c')).run Try.prog w = .ok (.bool a.isNone) w := fun w a n c n' c' => Lib.run_eql_slice_nil w _ _ a n c n' c' Try.underlying25
    go_enter Try.func46, Try.ntmps46
    go_wp2_with (at_builtin; refine wp_appendN (w.alloc _) rfl (.tmp 5) (.tmp 6) _ rfl w.heap.size 50 3 32 _ Try.underlying25 infoChk rfl (by omega) (by omega) _ 0 [] (own_empty w _ _ _ (Nat.le_refl _)) rfl _ _ _ _ _ (hv.ext (Ext.new _ _)) hsh rfl (check_one xs) (by omega) (by simp) ?_; intro v' w' ho' hb')
    go_ret
    exact ⟨⟨_, rfl, by simpa using ho'⟩, (Ext.new w _).trans hb'⟩
end Go.Proofs.Ytcocdigcmcpefaa
