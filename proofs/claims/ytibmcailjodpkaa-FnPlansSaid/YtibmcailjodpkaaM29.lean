/- Contracts of the closures of the program's DrillsDue, and of the copy of names. -/
import Derived.Test.YtibmcailjodpkaaN29
import Derived.Test.YtibmcailjodpkaaAppN
import Derived.Test.YtibmcailjodpkaaFind
import Derived.Lib.SliceRun
namespace Go.Proofs.Ytibmcailjodpkaa
set_option linter.unusedVariables false
open Go.RowKit
theorem dueCl1 (g1 g2 g3 : Nat) (crew : ByteArray) (day iv : Int) (x : Drill) (w : World) (h1 : w.cell? ⟨g1, 0, none⟩ = some (.string crew)) (h2 : w.cell? ⟨g2, 0, none⟩ = some (.int .i64 day)) (h3 : w.cell? ⟨g3, 0, none⟩ = some (.int .i64 iv)) (l1 : g1 < w.heap.size) (l2 : g2 < w.heap.size) (l3 : g3 < w.heap.size) (hdy : 0 ≤ day ∧ day ≤ 100000) (hiv : 1 ≤ iv ∧ iv ≤ 1000) :
    Calls Try.prog 61 #[.agg #[.int .i64 x.day, .string x.crew, .int .i64 x.persons, .int .i64 x.seconds, .int .i64 x.missing], .pointer (some ⟨g1, 0, none⟩), .pointer (some ⟨g2, 0, none⟩), .pointer (some ⟨g3, 0, none⟩)] w fun e w' => e = .returned (.bool (decide (x.crew.toList = crew.toList) && inB x.day (day - iv + 1) day)) ∧ Ext w w' := by
  obtain ⟨d0, d1⟩ := hdy
  obtain ⟨i0, i1⟩ := hiv
  by_cases hd : x.crew.toList = crew.toList
  · have hdb : (x.crew.toList == crew.toList) = true := by simp [hd]
    have HD := hid (show (decide (x.crew.toList = crew.toList) && inB x.day (day - iv + 1) day) = inB x.day (day - iv + 1) day by simp [hd])
    rw [HD.out, strInj hd]
    clear hd hdb
    go_enter Try.func61, Try.ntmps61
    go_wp2_with (go_at_call 51; refine (within _ _ _ _).mono ?_; rintro e w' ⟨rfl, rfl⟩)
    go_ret
    exact ⟨rfl, by go_tidy; go_grown⟩
  · have hdb : (x.crew.toList == crew.toList) = false := by simp [hd]
    have hdn : ¬ x.crew = crew := fun h => hd (by rw [h])
    go_enter Try.func61, Try.ntmps61
    go_wp2_with (go_at_call 51; refine (within _ _ _ _).mono ?_; rintro e w' ⟨rfl, rfl⟩)
    go_ret
    exact ⟨ret_bool (by simp [hd]), by go_tidy; go_grown⟩
theorem idxOwn (g1 g2 g3 : Nat) (crew : ByteArray) (day iv : Int) (xs : List Drill) (lo hi : Nat) (v : Value) (w : World) (h1 : w.cell? ⟨g1, 0, none⟩ = some (.string crew)) (h2 : w.cell? ⟨g2, 0, none⟩ = some (.int .i64 day)) (h3 : w.cell? ⟨g3, 0, none⟩ = some (.int .i64 iv)) (l1 : g1 < w.heap.size) (l2 : g2 < w.heap.size) (l3 : g3 < w.heap.size) (hdy : 0 ≤ day ∧ day ≤ 100000) (hiv : 1 ≤ iv ∧ iv ≤ 1000) (hv : Sl lo hi w 5 v xs.length (flat Drill.enc xs)) (hn : xs.length ≤ 1048576) :
    Calls Try.prog 82 #[v, .func (.func 61) #[] #[.pointer (some ⟨g1, 0, none⟩), .pointer (some ⟨g2, 0, none⟩), .pointer (some ⟨g3, 0, none⟩)]] w fun e w' => idxP (xs.any (fun x => decide (x.crew.toList = crew.toList) && inB x.day (day - iv + 1) day)) e ∧ Ext w w' := by
  obtain ⟨hhi, _, A, c, rfl, hnc, hcm, hcell⟩ := hv
  go_enter Try.func82, Try.ntmps82
  go_wp2
  go_loopw [8] (fun i wr => ∃ k : Nat, k ≤ xs.length ∧ i = .int .i64 k ∧ Hid (∀ j (h : j < xs.length), j < k → (fun x => decide (x.crew.toList = crew.toList) && inB x.day (day - iv + 1) day) xs[j] = false) ∧ Ext w wr) (fun i _ => xs.length - (intOf i).toNat)
  case atStart => exact ⟨0, Nat.zero_le _, rfl, hid (fun j h hj => absurd hj (by omega)), Below.refl _ _⟩
  case round =>
    obtain ⟨k, hk, rfl, hall, hE⟩ := hrel
    by_cases hlt : k < xs.length
    · obtain ⟨b', off, rfl, hb1, hb2, hc⟩ := hcell (by omega)
      obtain ⟨cc0, cc1, cc2, cc3, cc4⟩ := Drill.cells hc k hlt
      clear hc
      have hcc := (bcell hE).1
      have hbw : b' < w.heap.size := by omega
      skip
      cases hp : (fun x => decide (x.crew.toList = crew.toList) && inB x.day (day - iv + 1) day) xs[k]
      all_goals have hp2 : (decide (xs[k].crew.toList = crew.toList) && inB xs[k].day (day - iv + 1) day) = _ := hp
      · go_wp2_with (go_at_call 61; refine (cv (dueCl1 g1 g2 g3 crew day iv xs[k] _ (((bcell hE).1 _ _ l1).trans h1) (((bcell hE).1 _ _ l2).trans h2) (((bcell hE).1 _ _ l3).trans h3) (Nat.lt_of_lt_of_le l1 hE.size) (Nat.lt_of_lt_of_le l2 hE.size) (Nat.lt_of_lt_of_le l3 hE.size) hdy hiv) (vb hp2)).mono ?_; rintro e w2 ⟨rfl, hE2⟩)
        go_roundw
        case rel => exact ⟨k + 1, by omega, by go_num, hid (fun j h hj => by rcases Nat.lt_succ_iff_lt_or_eq.1 hj with h1 | rfl; exact hall.out j h h1; exact hp), Ext.tr hE hE2⟩
        case measure => simp [intOf]; omega
      · go_wp2_with (go_at_call 61; refine (cv (dueCl1 g1 g2 g3 crew day iv xs[k] _ (((bcell hE).1 _ _ l1).trans h1) (((bcell hE).1 _ _ l2).trans h2) (((bcell hE).1 _ _ l3).trans h3) (Nat.lt_of_lt_of_le l1 hE.size) (Nat.lt_of_lt_of_le l2 hE.size) (Nat.lt_of_lt_of_le l3 hE.size) hdy hiv) (vb hp2)).mono ?_; rintro e w2 ⟨rfl, hE2⟩)
        go_ret
        exact ⟨idxP_yes k (List.any_eq_true.2 ⟨_, List.getElem_mem hlt, hp⟩), Ext.tr hE hE2⟩
    · obtain rfl : k = xs.length := by omega
      go_wp2
      go_ret
      exact ⟨idxP_no (any_no fun j h => hall.out j h h), hE⟩
theorem anyOwn (g1 g2 g3 : Nat) (crew : ByteArray) (day iv : Int) (xs : List Drill) (lo hi : Nat) (v : Value) (w : World) (h1 : w.cell? ⟨g1, 0, none⟩ = some (.string crew)) (h2 : w.cell? ⟨g2, 0, none⟩ = some (.int .i64 day)) (h3 : w.cell? ⟨g3, 0, none⟩ = some (.int .i64 iv)) (l1 : g1 < w.heap.size) (l2 : g2 < w.heap.size) (l3 : g3 < w.heap.size) (hdy : 0 ≤ day ∧ day ≤ 100000) (hiv : 1 ≤ iv ∧ iv ≤ 1000) (hv : Sl lo hi w 5 v xs.length (flat Drill.enc xs)) (hn : xs.length ≤ 1048576) :
    Calls Try.prog 60 #[v, .func (.func 61) #[] #[.pointer (some ⟨g1, 0, none⟩), .pointer (some ⟨g2, 0, none⟩), .pointer (some ⟨g3, 0, none⟩)]] w fun e w' => e = .returned (.bool (xs.any (fun x => decide (x.crew.toList = crew.toList) && inB x.day (day - iv + 1) day))) ∧ Ext w w' := by
  go_enter Try.func60, Try.ntmps60
  go_wp2_with (go_at_call 82; refine (idxOwn g1 g2 g3 crew day iv xs lo hi v _ h1 h2 h3 l1 l2 l3 hdy hiv hv hn).mono ?_; rintro e w' ⟨⟨r, rfl, hr⟩, hE⟩)
  all_goals
    go_ret
    refine ⟨ret_bool ?_, hE⟩
    go_tidy
    cases hA : xs.any (fun x => decide (x.crew.toList = crew.toList) && inB x.day (day - iv + 1) day) <;> rw [hA] at hr <;> simp at hr ⊢ <;> omega

theorem dueCl (g1 g2 g3 : Nat) (ds : List Drill) (day iv : Int) (dlo dhi : Nat) (dv : Value) (crew : ByteArray) (w : World) (h1 : w.cell? ⟨g1, 0, none⟩ = some dv) (h2 : w.cell? ⟨g2, 0, none⟩ = some (.int .i64 day)) (h3 : w.cell? ⟨g3, 0, none⟩ = some (.int .i64 iv)) (l1 : g1 < w.heap.size) (l2 : g2 < w.heap.size) (l3 : g3 < w.heap.size) (hdy : 0 ≤ day ∧ day ≤ 100000) (hiv : 1 ≤ iv ∧ iv ≤ 1000) (hds : Sl dlo dhi w 5 dv ds.length (flat Drill.enc ds)) (hdn : ds.length ≤ 1048576) :
    Calls Try.prog 59 #[.string crew, .pointer (some ⟨g1, 0, none⟩), .pointer (some ⟨g2, 0, none⟩), .pointer (some ⟨g3, 0, none⟩)] w fun e w' => e = .returned (.bool (!dueB ds crew day iv)) ∧ Ext w w' := by
  have hE := Ext.new w (.cells #[.string crew] 9)
  have HN := hid (anyOwn w.heap.size g2 g3 crew day iv ds dlo dhi dv (w.alloc (.cells #[.string crew] 9)) (by simp) (((bcell hE).1 _ _ l2).trans h2) (((bcell hE).1 _ _ l3).trans h3) (by simp) (Nat.lt_of_lt_of_le l2 hE.size) (Nat.lt_of_lt_of_le l3 hE.size) hdy hiv (hds.ext hE) hdn)
  clear hE
  go_enter Try.func59, Try.ntmps59
  go_wp2_with (go_at_call 60; refine HN.out.mono ?_; rintro e w1 ⟨rfl, hE1⟩)
  go_ret
  exact ⟨ret_bool (by unfold dueB; simp), Ext.tr (Ext.new _ _) hE1⟩
theorem idxEDue (g1 g2 g3 : Nat) (ds : List Drill) (day iv : Int) (dlo dhi : Nat) (dv : Value) (xs : List ByteArray) (lo hi : Nat) (v : Value) (w : World) (h1 : w.cell? ⟨g1, 0, none⟩ = some dv) (h2 : w.cell? ⟨g2, 0, none⟩ = some (.int .i64 day)) (h3 : w.cell? ⟨g3, 0, none⟩ = some (.int .i64 iv)) (l1 : g1 < w.heap.size) (l2 : g2 < w.heap.size) (l3 : g3 < w.heap.size) (hdy : 0 ≤ day ∧ day ≤ 100000) (hiv : 1 ≤ iv ∧ iv ≤ 1000) (hds : Sl dlo dhi w 5 dv ds.length (flat Drill.enc ds)) (hdn : ds.length ≤ 1048576) (hv : Sl lo hi w 1 v xs.length (flat encT xs)) (hn : xs.length ≤ 1048576) :
    Calls Try.prog 81 #[v, .func (.func 59) #[] #[.pointer (some ⟨g1, 0, none⟩), .pointer (some ⟨g2, 0, none⟩), .pointer (some ⟨g3, 0, none⟩)]] w fun e w' => e = .returned (.int .i64 (findIx (fun c => !dueB ds c day iv) xs)) ∧ Ext w w' := by
  obtain ⟨hhi, _, A, c, rfl, hnc, hcm, hcell⟩ := hv
  go_enter Try.func81, Try.ntmps81
  go_wp2
  go_loopw [8] (fun i wr => ∃ k : Nat, k ≤ xs.length ∧ i = .int .i64 k ∧ Hid (∀ j (h : j < xs.length), j < k → (fun c => !dueB ds c day iv) xs[j] = false) ∧ Ext w wr) (fun i _ => xs.length - (intOf i).toNat)
  case atStart => exact ⟨0, Nat.zero_le _, rfl, hid (fun j h hj => absurd hj (by omega)), Below.refl _ _⟩
  case round =>
    obtain ⟨k, hk, rfl, hall, hE⟩ := hrel
    by_cases hlt : k < xs.length
    · obtain ⟨b', off, rfl, hb1, hb2, hc⟩ := hcell (by omega)
      have cc0 := cellsT hc k hlt
      clear hc
      have hcc := (bcell hE).1
      have hbw : b' < w.heap.size := by omega
      skip
      cases hp : (fun c => !dueB ds c day iv) xs[k]
      all_goals have hp2 : (!dueB ds xs[k] day iv) = _ := hp
      · go_wp2_with (go_at_call 59; refine (cv (dueCl g1 g2 g3 ds day iv dlo dhi dv xs[k] _ (((bcell hE).1 _ _ l1).trans h1) (((bcell hE).1 _ _ l2).trans h2) (((bcell hE).1 _ _ l3).trans h3) (Nat.lt_of_lt_of_le l1 hE.size) (Nat.lt_of_lt_of_le l2 hE.size) (Nat.lt_of_lt_of_le l3 hE.size) hdy hiv (hds.ext hE) hdn) (vb hp2)).mono ?_; rintro e w2 ⟨rfl, hE2⟩)
        go_roundw
        case rel => exact ⟨k + 1, by omega, by go_num, hid (fun j h hj => by rcases Nat.lt_succ_iff_lt_or_eq.1 hj with h1 | rfl; exact hall.out j h h1; exact hp), Ext.tr hE hE2⟩
        case measure => simp [intOf]; omega
      · go_wp2_with (go_at_call 59; refine (cv (dueCl g1 g2 g3 ds day iv dlo dhi dv xs[k] _ (((bcell hE).1 _ _ l1).trans h1) (((bcell hE).1 _ _ l2).trans h2) (((bcell hE).1 _ _ l3).trans h3) (Nat.lt_of_lt_of_le l1 hE.size) (Nat.lt_of_lt_of_le l2 hE.size) (Nat.lt_of_lt_of_le l3 hE.size) hdy hiv (hds.ext hE) hdn) (vb hp2)).mono ?_; rintro e w2 ⟨rfl, hE2⟩)
        go_ret
        exact ⟨ret_int (findIx_yes k hlt (fun j h => hall.out j (by omega) h) hp).symm, Ext.tr hE hE2⟩
    · obtain rfl : k = xs.length := by omega
      go_wp2
      go_ret
      exact ⟨ret_int (findIx_no fun j h => hall.out j h h).symm, hE⟩

theorem str_one (xs : List ByteArray) : ∀ y ∈ flat encT xs, y.oneCell' = true := flat_one (fun x y hy => by
  simp only [encT, List.mem_cons, List.not_mem_nil, or_false] at hy
  subst hy; rfl) xs
set_option maxRecDepth 100000 in
set_option maxHeartbeats 1000000 in
theorem cloneStr (xs : List ByteArray) (lo hi : Nat) (v : Value) (w : World) (hv : Sl lo hi w 1 v xs.length (flat encT xs)) (hsh : Shape v xs.length) (hn : xs.length ≤ 1048576) :
    Calls Try.prog 58 #[v] w fun e w' => (∃ v', e = .returned v' ∧ w'.ownsRow w.heap.size 9 1 v' xs.length (flat encT xs)) ∧ Ext w w' := by
  have hv0 := hv
  obtain ⟨_, hl, A, c, he, _, _, _⟩ := hv0
  have qT : ∀ (w : World) (a : Option Addr) (n c n' c' : Nat), (binOp .eql 39 (.slice a n c) (.slice none n' c')).run Try.prog w = .ok (.bool a.isNone) w := fun w a n c n' c' => Lib.run_eql_slice_nil w _ _ a n c n' c' Try.underlying39
  rcases hsh with rfl | ⟨b, off, c', rfl⟩
  · simp only [Value.slice.injEq] at he
    obtain ⟨rfl, h0, rfl⟩ := he
    have h1 : flat encT xs = [] := List.eq_nil_of_length_eq_zero (by omega)
    have HL := hid h0
    have H1 := hid h1
    clear h0 h1
    go_enter Try.func58, Try.ntmps58
    go_wp2
    go_ret
    exact ⟨⟨_, rfl, by rw [H1.out, ← HL.out]; exact World.ownsRow_nil _ _ _ _⟩, Below.refl _ _⟩
  · have hsh : Shape (.slice (some ⟨b, off, none⟩) xs.length c') xs.length := .inr ⟨b, off, c', rfl⟩
    clear he
    go_enter Try.func58, Try.ntmps58
    go_wp2_with (at_builtin; refine wp_appendN (w.alloc _) rfl (.tmp 5) (.tmp 6) _ rfl w.heap.size 9 1 16 _ Try.underlying39 infoStr rfl (by omega) (by omega) _ 0 [] (own_empty w _ _ _ (Nat.le_refl _)) rfl _ _ _ _ _ (hv.ext (Ext.new _ _)) hsh rfl (str_one xs) (by omega) (by simp) ?_; intro v' w' ho' hb')
    go_ret
    exact ⟨⟨_, rfl, by simpa using ho'⟩, (Ext.new w _).trans hb'⟩
end Go.Proofs.Ytibmcailjodpkaa
