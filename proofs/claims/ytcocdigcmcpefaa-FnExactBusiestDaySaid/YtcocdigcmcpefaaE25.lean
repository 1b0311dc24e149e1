/- Contracts of LatestOf in both packages. -/
import Derived.Test.YtcocdigcmcpefaaD25
import Derived.Test.YtcocdigcmcpefaaWithin
namespace Go.Proofs.Ytcocdigcmcpefaa
set_option linter.unusedVariables false
open Go.RowKit
def daysB (ds : List Int) : Bool := decide (ds.length ≤ 16) && allIn ds 0 200000
theorem l25Days (xs : List Int) (lo hi : Nat) (v : Value) (w : World) (hv : Sl lo hi w 1 v xs.length (flat encI xs)) (hn : xs.length ≤ 1048576) :
    Calls Try.prog 35 #[v] w fun e w' => e = .returned (.bool (daysB xs)) ∧ w = w' := by
  obtain ⟨hhi, _, A, c, rfl, hnc, hcm, hcell⟩ := hv
  go_enter Try.func35, Try.ntmps35
  go_wp2
  go_loop [3] (fun i => ∃ k : Nat, k ≤ xs.length ∧ i = .int .i64 k ∧ Hid (∀ j (h : j < xs.length), j < k → inB xs[j] 0 200000 = true)) (fun i => xs.length - (intOf i).toNat)
  case atStart => exact ⟨0, Nat.zero_le _, rfl, hid (fun j h hj => absurd hj (by omega))⟩
  case round =>
    obtain ⟨k, hk, rfl, hall⟩ := hrel
    by_cases hlt : k < xs.length
    · obtain ⟨b', off, rfl, hb1, hb2, hc⟩ := hcell (by omega)
      have c0 := cellsI hc k hlt
      clear hc
      cases hp : inB xs[k] 0 200000
      · go_wp2_with (go_at_call 57; refine (cv (l00In _ _ _ _) (vb hp)).mono ?_; rintro e w' ⟨rfl, rfl⟩)
        go_ret
        exact ⟨ret_bool (by unfold daysB; rw [allIn_no k hlt hp]; simp), rfl⟩
      · go_wp2_with (go_at_call 57; refine (cv (l00In _ _ _ _) (vb hp)).mono ?_; rintro e w' ⟨rfl, rfl⟩)
        go_round
        case rel => exact ⟨k + 1, by omega, by go_num, hid (fun j h hj => by rcases Nat.lt_succ_iff_lt_or_eq.1 hj with h1 | rfl; exact hall.out j h h1; exact hp)⟩
        case measure => simp [intOf]; omega
    · obtain rfl : k = xs.length := by omega
      go_wp2
      go_ret
      have hA := allIn_yes (fun k hk => hall.out k hk hk)
      refine ⟨ret_bool ?_, rfl⟩
      go_tidy
      clear hall
      unfold daysB; rw [hA, Bool.and_true, decide_eq_decide]; omega
theorem planDays (xs : List Int) (lo hi : Nat) (v : Value) (w : World) (hv : Sl lo hi w 1 v xs.length (flat encI xs)) (hn : xs.length ≤ 1048576) :
    Calls Try.prog 38 #[v] w fun e w' => e = .returned (.bool (daysB xs)) ∧ Ext w w' := by
  have hv0 := hv
  obtain ⟨hhi, _, A, c, rfl, hnc, hcm, hcell⟩ := hv0
  clear hcell
  by_cases h : xs.length ≤ 16
  · go_enter Try.func38, Try.ntmps38
    go_wp2_with (go_at_call 58; refine (allWithin xs 0 200000 lo hi _ _ hv hn).mono ?_; rintro e w1 ⟨rfl, hE⟩)
    go_ret
    exact ⟨ret_bool (by unfold daysB; simp [h]), hE⟩
  · go_enter Try.func38, Try.ntmps38
    go_wp2
    go_ret
    exact ⟨ret_bool (by unfold daysB; simp [h]), Below.refl _ _⟩
/-- how late the work on number k is -/
def lateAt (xs : List Check) (ds : List Int) (k : Nat) : Int := ds.getD k 0 - ((xs[k]?.map fun c => c.last + c.every).getD 0)
theorem lateAt_eq {xs : List Check} {ds : List Int} {k : Nat} (h : k < xs.length) (h2 : k < ds.length) : lateAt xs ds k = ds[k] - (xs[k].last + xs[k].every) := by
  unfold lateAt; rw [List.getElem?_eq_getElem h, List.getD_eq_getElem?_getD, List.getElem?_eq_getElem h2]; rfl
def lateTo (xs : List Check) (ds : List Int) : Nat → Int
  | 0 => lateAt xs ds 0
  | k + 1 => maxI (lateTo xs ds k) (lateAt xs ds (k + 1))
def latest (xs : List Check) (ds : List Int) : Int × Int :=
  if checksOkB xs then (if daysB ds && decide (ds.length = xs.length) then (if xs.length = 0 then (0, 6) else (lateTo xs ds (xs.length - 1), 0)) else (0, 7)) else (0, 1)
theorem daysB_bd {ds : List Int} (h2 : daysB ds = true) (k : Nat) (h3 : k < ds.length) : 0 ≤ ds[k] ∧ ds[k] ≤ 200000 := by
  unfold daysB at h2; rw [Bool.and_eq_true] at h2
  exact allIn_at h2.2 k h3
theorem lateAt_bd {xs : List Check} {ds : List Int} (h1 : checksOkB xs = true) (h2 : daysB ds = true) {k : Nat} (h : k < xs.length) (h3 : k < ds.length) : -200000 ≤ lateAt xs ds k ∧ lateAt xs ds k ≤ 200000 := by
  rw [lateAt_eq h h3]
  have := checksOkB_p h1 k h
  unfold daysB at h2; rw [Bool.and_eq_true] at h2
  have := allIn_at h2.2 k h3
  omega
theorem lateTo_bd {xs : List Check} {ds : List Int} (h1 : checksOkB xs = true) (h2 : daysB ds = true) (hl : ds.length = xs.length) (k : Nat) (h : k < xs.length) : -200000 ≤ lateTo xs ds k ∧ lateTo xs ds k ≤ 200000 := by
  induction k with
  | zero => exact lateAt_bd h1 h2 h (by omega)
  | succ k ih =>
    have a := ih (by omega)
    have b := lateAt_bd h1 h2 h (by omega : k + 1 < ds.length)
    unfold lateTo maxI; split <;> omega
theorem latest_no {xs : List Check} (ds : List Int) (h : checksOkB xs = false) : latest xs ds = (0, 1) := by unfold latest; simp [h]
theorem latest_days {xs : List Check} {ds : List Int} (h : checksOkB xs = true) (h2 : daysB ds = false) : latest xs ds = (0, 7) := by unfold latest; simp [h, h2]
theorem latest_len {xs : List Check} {ds : List Int} (h : checksOkB xs = true) (h2 : ds.length ≠ xs.length) : latest xs ds = (0, 7) := by unfold latest; simp [h, h2]
theorem latest_nil {xs : List Check} {ds : List Int} (h : checksOkB xs = true) (h2 : daysB ds = true) (h3 : ds.length = xs.length) (h4 : xs.length = 0) : latest xs ds = (0, 6) := by unfold latest; simp [h, h2, h3, h4]
theorem latest_ok {xs : List Check} {ds : List Int} (h : checksOkB xs = true) (h2 : daysB ds = true) (h3 : ds.length = xs.length) (h4 : xs.length ≠ 0) : latest xs ds = (lateTo xs ds (xs.length - 1), 0) := by unfold latest; simp [h, h2, h3, h4]
set_option maxRecDepth 100000 in
set_option maxHeartbeats 1000000 in
theorem specLatestOk (xs : List Check) (ds : List Int) (lo hi lo' hi' : Nat) (v v' : Value) (w : World) (hv : Sl lo hi w 3 v xs.length (flat Check.enc xs)) (hs : ∀ x ∈ xs, x.id.size ≤ maxLen) (hn : xs.length ≤ 1048576) (hv' : Sl lo' hi' w 1 v' ds.length (flat encI ds)) (hn' : ds.length ≤ 1048576)
    (h1 : checksOkB xs = true) (h2 : daysB ds = true) (h3 : ds.length = xs.length) (h4 : xs.length ≠ 0) :
    Calls Try.prog 14 #[v, v'] w fun e w' => e = .returned (.tuple #[.int .i64 (latest xs ds).1, .int .i64 (latest xs ds).2]) ∧ Ext w w' := by
  have hv0 := hv
  obtain ⟨hhi, _, A, c, rfl, hnc, hcm, hcell⟩ := hv0
  have hv0 := hv'
  obtain ⟨hhi', _, A', c', rfl, hnc', hcm', hcell'⟩ := hv0
  have HQ := hid (latest_ok h1 h2 h3 h4)
  obtain ⟨b, off, rfl, hb1, hb2, hc⟩ := hcell (Nat.pos_of_ne_zero h4)
  obtain ⟨b', off', rfl, hb1', hb2', hc'⟩ := hcell' (by rw [h3]; exact Nat.pos_of_ne_zero h4)
  have hbw : b < w.heap.size := Nat.lt_of_lt_of_le hb2 hhi
  have hbw' : b' < w.heap.size := Nat.lt_of_lt_of_le hb2' hhi'
  have H0 : Hid (∀ W, Ext w W → ∀ k (hk : k < xs.length), Check.At W b (off + k * 3) xs[k]) := fun W hE k hk => Check.at_of hc hE hbw k hk
  have HD : Hid (∀ W, Ext w W → ∀ k (hk : k < ds.length), W.cell? ⟨b', off' + k, none⟩ = some (.int .i64 ds[k])) := fun W hE k hk => (hE.cell (p := ⟨b', off' + k, none⟩) hbw').trans (cellsI hc' k hk)
  have HC := hid (cv (checksSpec xs lo hi _ w hv hs hn) (vb h1))
  have HY : Hid (∀ W, Ext w W → Calls Try.prog 35 #[.slice (some ⟨b', off', none⟩) xs.length c'] W fun e w' => e = .returned (.bool true) ∧ W = w') := fun W hW => by have := cv (l25Days ds lo' hi' _ W (hv'.ext hW) hn') (vb h2); rw [h3] at this; exact this
  have HL := hid h3
  rw [h3]
  clear hcell hcell' hc hc' hv hv' hs h3 hnc'
  go_enter Try.func14, Try.ntmps14
  go_wp2_with fail
  refine HC.out.mono ?_
  rintro e w1 ⟨rfl, hE⟩
  go_wp2_with fail
  refine (HY.out w1 hE).mono ?_
  rintro e w2 ⟨rfl, rfl⟩
  have hz := hE.size
  have hd0 := HD.out w1 hE 0 (by rw [HL.out]; exact Nat.pos_of_ne_zero h4)
  have hbd := checksOkB_p h1 0 (Nat.pos_of_ne_zero h4)
  have hdd := daysB_bd h2 0 (by rw [HL.out]; exact Nat.pos_of_ne_zero h4)
  have hpos : 0 < xs.length := Nat.pos_of_ne_zero h4
  have hd00 := hd0
  simp only [Nat.add_zero] at hd0
  have HP : Hid (∀ n, Check.At (w1.drewN n) b off (xs[0]'hpos)) := fun n => by have := H0.out (w1.drewN n) (Ext.tr hE (Ext.drewN _ n)) 0 hpos; simpa only [Nat.zero_mul, Nat.add_zero] using this
  go_wp2_with fail
  go_quiet ((go_at_call 36; exact Calls.quiet_of (l25Due b off (xs[0]'hpos).every (xs[0]'hpos).last _ hbd.1 hbd.2 (HP.out _).2.1 (HP.out _).2.2)))
  have hE2 : Ext w (w1.drewN nq) := Ext.tr hE (Ext.drewN _ nq)
  have hl0 : ds[0]'(by rw [HL.out]; exact hpos) - ((xs[0]'hpos).last + (xs[0]'hpos).every) = lateTo xs ds 0 := (lateAt_eq hpos _).symm
  rw [hl0]
  clear hl0 hd0 hd00 hdd hbd
  go_wp2_with fail
  go_loopw [6, 7] (fun m i wr => ∃ (k : Nat), 1 ≤ k ∧ k ≤ xs.length ∧ i = .int .i64 k ∧ m = .int .i64 (lateTo xs ds (k - 1)) ∧ Ext w wr) (fun _ i _ => xs.length - (intOf i).toNat)
  case atStart => exact ⟨1, by omega, by omega, rfl, rfl, hE2⟩
  case round =>
    obtain ⟨k, hk1, hk, rfl, rfl, hE3⟩ := hrel
    by_cases hlt : k < xs.length
    · have hz3 := hE3.size
      have hlk : k < ds.length := by rw [HL.out]; exact hlt
      have hd0 := HD.out wr hE3 k hlk
      have hbd := checksOkB_p h1 k hlt
      have hdd := daysB_bd h2 k hlk
      have hla := lateAt_eq hlt hlk
      have HS := hid (show maxI (lateTo xs ds (k - 1)) (lateAt xs ds k) = lateTo xs ds (k + 1 - 1) by obtain ⟨j, rfl⟩ : ∃ j, k = j + 1 := ⟨k - 1, by omega⟩; rfl)
      have HP : Hid (∀ n, Check.At (wr.drewN n) b (off + k * 3) xs[k]) := fun n => H0.out (wr.drewN n) (Ext.tr hE3 (Ext.drewN _ n)) k hlt
      go_wp2_with fail
      go_quiet ((first | (go_at_call 36; exact Calls.quiet_of (l25Due b _ xs[k].every xs[k].last _ hbd.1 hbd.2 (HP.out _).2.1 (HP.out _).2.2)) | (go_at_call 37; exact Calls.quiet_of_same (qv (l00Max _ _ _) (by rw [← hla, HS.out])))))
      go_wp2
      go_roundw
      case rel => exact ⟨k + 1, by omega, by omega, by go_num, rfl, Ext.tr hE3 (Ext.drewN _ _)⟩
      case measure => simp [intOf]; omega
    · obtain rfl : k = xs.length := by omega
      go_wp2
      go_ret2
      exact ⟨by rw [HQ.out]; rfl, hE3⟩
set_option maxRecDepth 100000 in
set_option maxHeartbeats 1000000 in
theorem specLatestOf (xs : List Check) (ds : List Int) (lo hi lo' hi' : Nat) (v v' : Value) (w : World) (hv : Sl lo hi w 3 v xs.length (flat Check.enc xs)) (hs : ∀ x ∈ xs, x.id.size ≤ maxLen) (hn : xs.length ≤ 1048576) (hv' : Sl lo' hi' w 1 v' ds.length (flat encI ds)) (hn' : ds.length ≤ 1048576) :
    Calls Try.prog 14 #[v, v'] w fun e w' => e = .returned (.tuple #[.int .i64 (latest xs ds).1, .int .i64 (latest xs ds).2]) ∧ Ext w w' := by
  cases h1 : checksOkB xs
  · have HQ := hid (latest_no ds h1)
    go_enter Try.func14, Try.ntmps14
    go_wp2_with (go_at_call 31; refine (cv (checksSpec xs lo hi _ _ hv hs hn) (vb h1)).mono ?_; rintro e w1 ⟨rfl, hE⟩)
    go_ret2
    exact ⟨by rw [HQ.out]; rfl, hE⟩
  have HC := hid (fun (W : World) (hW : Ext w W) => cv (checksSpec xs lo hi v W (hv.ext hW) hs hn) (vb h1))
  cases h2 : daysB ds
  · have HQ := hid (latest_days h1 h2)
    go_enter Try.func14, Try.ntmps14
    go_wp2_with (first | (go_at_call 31; refine (HC.out _ (Below.refl _ _)).mono ?_; rintro e w1 ⟨rfl, hE⟩) | (go_at_call 35; refine (cv (l25Days ds lo' hi' _ _ (hv'.ext hE) hn') (vb h2)).mono ?_; rintro e w2 ⟨rfl, rfl⟩))
    go_ret2
    exact ⟨by rw [HQ.out]; rfl, hE⟩
  have HY := hid (fun (W : World) (hW : Ext w W) => cv (l25Days ds lo' hi' v' W (hv'.ext hW) hn') (vb h2))
  by_cases h3 : ds.length = xs.length
  rotate_left
  · have HQ := hid (latest_len h1 h3)
    have h5 : ¬ ((ds.length : Int) = (xs.length : Int)) := by omega
    obtain ⟨_, _, A, c, rfl, _, hcm, _⟩ := hv
    obtain ⟨_, _, A', c', rfl, _, hcm', _⟩ := hv'
    go_enter Try.func14, Try.ntmps14
    go_wp2_with (first | (go_at_call 31; refine (HC.out _ (Below.refl _ _)).mono ?_; rintro e w1 ⟨rfl, hE⟩) | (go_at_call 35; refine (HY.out _ hE).mono ?_; rintro e w2 ⟨rfl, rfl⟩))
    all_goals first | (exfalso; simp_all; done) | skip
    go_ret2
    exact ⟨by rw [HQ.out]; rfl, hE⟩
  by_cases h4 : xs.length = 0
  · have HQ := hid (latest_nil h1 h2 h3 h4)
    obtain ⟨_, _, A, c, rfl, _, hcm, _⟩ := hv
    obtain ⟨_, _, A', c', rfl, _, hcm', _⟩ := hv'
    obtain rfl := List.eq_nil_of_length_eq_zero h4
    obtain rfl := List.eq_nil_of_length_eq_zero h3
    change Calls Try.prog 14 #[.slice A 0 c, .slice A' 0 c'] w _
    go_enter Try.func14, Try.ntmps14
    go_wp2_with (first | (go_at_call 31; refine (HC.out _ (Below.refl _ _)).mono ?_; rintro e w1 ⟨rfl, hE⟩) | (go_at_call 35; refine (HY.out _ hE).mono ?_; rintro e w2 ⟨rfl, rfl⟩))
    go_ret2
    exact ⟨by rw [HQ.out]; rfl, hE⟩
  exact specLatestOk xs ds lo hi lo' hi' v v' w hv hs hn hv' hn' h1 h2 h3 h4
set_option maxRecDepth 100000 in
set_option maxHeartbeats 1000000 in
theorem implLatestOk (xs : List Check) (ds : List Int) (lo hi lo' hi' : Nat) (v v' : Value) (w : World) (hv : Sl lo hi w 3 v xs.length (flat Check.enc xs)) (hs : ∀ x ∈ xs, x.id.size ≤ maxLen) (hn : xs.length ≤ 1048576) (hv' : Sl lo' hi' w 1 v' ds.length (flat encI ds)) (hn' : ds.length ≤ 1048576)
    (h1 : checksOkB xs = true) (h2 : daysB ds = true) (h3 : ds.length = xs.length) (h4 : xs.length ≠ 0) :
    Calls Try.prog 16 #[v, v'] w fun e w' => e = .returned (.tuple #[.int .i64 (latest xs ds).1, .int .i64 (latest xs ds).2]) ∧ Ext w w' := by
  have hv0 := hv
  obtain ⟨hhi, _, A, c, rfl, hnc, hcm, hcell⟩ := hv0
  have hv0 := hv'
  obtain ⟨hhi', _, A', c', rfl, hnc', hcm', hcell'⟩ := hv0
  have HQ := hid (latest_ok h1 h2 h3 h4)
  obtain ⟨b, off, rfl, hb1, hb2, hc⟩ := hcell (Nat.pos_of_ne_zero h4)
  obtain ⟨b', off', rfl, hb1', hb2', hc'⟩ := hcell' (by rw [h3]; exact Nat.pos_of_ne_zero h4)
  have hbw : b < w.heap.size := Nat.lt_of_lt_of_le hb2 hhi
  have hbw' : b' < w.heap.size := Nat.lt_of_lt_of_le hb2' hhi'
  have H0 : Hid (∀ W, Ext w W → ∀ k (hk : k < xs.length), Check.At W b (off + k * 3) xs[k]) := fun W hE k hk => Check.at_of hc hE hbw k hk
  have HD : Hid (∀ W, Ext w W → ∀ k (hk : k < ds.length), W.cell? ⟨b', off' + k, none⟩ = some (.int .i64 ds[k])) := fun W hE k hk => (hE.cell (p := ⟨b', off' + k, none⟩) hbw').trans (cellsI hc' k hk)
  have HC := hid (cv (checksImpl xs lo hi _ w hv hs hn) (vb h1))
  have HY : Hid (∀ W, Ext w W → Calls Try.prog 38 #[.slice (some ⟨b', off', none⟩) xs.length c'] W fun e w' => e = .returned (.bool true) ∧ Ext W w') := fun W hW => by have := cv (planDays ds lo' hi' _ W (hv'.ext hW) hn') (vb h2); rw [h3] at this; exact this
  have HL := hid h3
  rw [h3]
  clear hcell hcell' hc hc' hv hv' hs h3 hnc'
  go_enter Try.func16, Try.ntmps16
  go_wp2_with fail
  refine HC.out.mono ?_
  rintro e w1 ⟨rfl, hE⟩
  go_wp2_with fail
  refine (HY.out w1 hE).mono ?_
  rintro e w2 ⟨rfl, hE0⟩
  replace hE := Ext.tr hE hE0
  have hz := hE.size
  have hpos : 0 < xs.length := Nat.pos_of_ne_zero h4
  have hposd : 0 < ds.length := by rw [HL.out]; exact hpos
  have hbd := checksOkB_p h1 0 hpos
  have hdd := daysB_bd h2 0 hposd
  have q0 : ∀ d : Later w2, d.w.cell? ⟨b', off', none⟩ = some (.int .i64 (ds[0]'hposd)) := fun d => by have := HD.out d.w (Ext.tr hE d.h) 0 hposd; simpa only [Nat.add_zero] using this
  have HP : Hid (∀ d : Later w2, Check.At d.w b off (xs[0]'hpos)) := fun d => by have := H0.out d.w (Ext.tr hE d.h) 0 hpos; simpa only [Nat.zero_mul, Nat.add_zero] using this
  have q1 : ∀ d : Later w2, d.w.cell? ⟨b, off, none⟩ = some (.string (xs[0]'hpos).id) := fun d => (HP.out d).1
  have q2 : ∀ d : Later w2, d.w.cell? ⟨b, off + 1, none⟩ = some (.int .i64 (xs[0]'hpos).every) := fun d => (HP.out d).2.1
  have q3 : ∀ d : Later w2, d.w.cell? ⟨b, off + 2, none⟩ = some (.int .i64 (xs[0]'hpos).last) := fun d => (HP.out d).2.2
  go_wp2_with fail
  refine wp_region_later w2 (by kernel_rfl) (by kernel_rfl) (Below.refl _ _) ?_
  repeat (go_big_quiet_step ((go_at_call 39; exact ql (checkDue (xs[0]'hpos).id (xs[0]'hpos).every (xs[0]'hpos).last _ hbd.1 hbd.2) rfl)))
  refine wpQuiet_nil ?_
  rintro _ ⟨d0, rfl⟩
  have hE2 : Ext w d0.w := Ext.tr hE d0.h
  have hl0 : ds[0]'hposd - ((xs[0]'hpos).last + (xs[0]'hpos).every) = lateTo xs ds 0 := (lateAt_eq hpos _).symm
  rw [hl0]
  clear hl0 hdd hbd q0 q1 q2 q3
  go_wp2_with fail
  go_loopw [6, 38] (fun m i wr => ∃ (k : Nat), k ≤ xs.length ∧ i = .int .i64 k ∧ m = .int .i64 (lateTo xs ds (k - 1)) ∧ Ext w wr) (fun _ i _ => xs.length - (intOf i).toNat)
  case atStart => exact ⟨0, by omega, rfl, rfl, hE2⟩
  case round =>
    obtain ⟨k, hk, rfl, rfl, hE3⟩ := hrel
    by_cases hlt : k < xs.length
    · have hz3 := hE3.size
      have hlk : k < ds.length := by rw [HL.out]; exact hlt
      obtain ⟨c0, c1, c2⟩ := H0.out wr hE3 k hlt
      have hbd := checksOkB_p h1 k hlt
      have hdd := daysB_bd h2 k hlk
      have hla := lateAt_eq hlt hlk
      have hlb := lateTo_bd h1 h2 HL.out (k - 1) (by omega)
      have HS : Hid (maxI (lateTo xs ds (k - 1)) (lateAt xs ds k) = lateTo xs ds (k + 1 - 1)) := by
        cases k with
        | zero => show maxI (lateAt xs ds 0) (lateAt xs ds 0) = lateAt xs ds 0; unfold maxI; simp
        | succ j => rfl
      go_wp2_with fail
      generalize hA : wr.alloc _ = B
      have hEB : Ext w B := by rw [← hA]; exact Ext.tr hE3 (Ext.new _ _)
      have hBz : wr.heap.size < B.heap.size := by rw [← hA]; simp
      have x0 : ∀ d : Later B, d.w.cell? ⟨wr.heap.size, 0, none⟩ = some (.string xs[k].id) := fun d => (d.h.cell (p := ⟨wr.heap.size, 0, none⟩) hBz).trans (by rw [← hA]; simp)
      have x1 : ∀ d : Later B, d.w.cell? ⟨wr.heap.size, 1, none⟩ = some (.int .i64 xs[k].every) := fun d => (d.h.cell (p := ⟨wr.heap.size, 1, none⟩) hBz).trans (by rw [← hA]; simp)
      have x2 : ∀ d : Later B, d.w.cell? ⟨wr.heap.size, 2, none⟩ = some (.int .i64 xs[k].last) := fun d => (d.h.cell (p := ⟨wr.heap.size, 2, none⟩) hBz).trans (by rw [← hA]; simp)
      have q0 : ∀ d : Later B, d.w.cell? ⟨b', off' + k, none⟩ = some (.int .i64 (ds[k]'hlk)) := fun d => HD.out d.w (Ext.tr hEB d.h) k hlk
      have HA := hid hA
      clear hA c0 c1 c2
      refine wp_region_later B (by kernel_rfl) (by kernel_rfl) (Below.refl _ _) ?_
      repeat (go_big_quiet_step ((go_at_call 39; exact ql (checkDue xs[k].id xs[k].every xs[k].last _ hbd.1 hbd.2) rfl)))
      refine wpQuiet_nil ?_
      rintro _ ⟨d1, rfl⟩
      go_wp2
      go_roundw
      case rel => exact ⟨k + 1, by omega, by go_num, by rw [← HS.out, hla]; congr 1; unfold maxI; split <;> split <;> first | rfl | omega, Ext.tr hEB d1.h⟩
      case measure => simp [intOf]; omega
    · obtain rfl : k = xs.length := by omega
      go_wp2
      go_ret2
      exact ⟨by rw [HQ.out]; rfl, hE3⟩
set_option maxRecDepth 100000 in
set_option maxHeartbeats 1000000 in
theorem implLatestOf (xs : List Check) (ds : List Int) (lo hi lo' hi' : Nat) (v v' : Value) (w : World) (hv : Sl lo hi w 3 v xs.length (flat Check.enc xs)) (hs : ∀ x ∈ xs, x.id.size ≤ maxLen) (hn : xs.length ≤ 1048576) (hv' : Sl lo' hi' w 1 v' ds.length (flat encI ds)) (hn' : ds.length ≤ 1048576) :
    Calls Try.prog 16 #[v, v'] w fun e w' => e = .returned (.tuple #[.int .i64 (latest xs ds).1, .int .i64 (latest xs ds).2]) ∧ Ext w w' := by
  cases h1 : checksOkB xs
  · have HQ := hid (latest_no ds h1)
    go_enter Try.func16, Try.ntmps16
    go_wp2_with (go_at_call 12; refine (cv (checksImpl xs lo hi _ _ hv hs hn) (vb h1)).mono ?_; rintro e w1 ⟨rfl, hE⟩)
    go_ret2
    exact ⟨by rw [HQ.out]; rfl, hE⟩
  have HC := hid (fun (W : World) (hW : Ext w W) => cv (checksImpl xs lo hi v W (hv.ext hW) hs hn) (vb h1))
  cases h2 : daysB ds
  · have HQ := hid (latest_days h1 h2)
    go_enter Try.func16, Try.ntmps16
    go_wp2_with (first | (go_at_call 12; refine (HC.out _ (Below.refl _ _)).mono ?_; rintro e w1 ⟨rfl, hE⟩) | (go_at_call 38; refine (cv (planDays ds lo' hi' _ _ (hv'.ext hE) hn') (vb h2)).mono ?_; rintro e w2 ⟨rfl, hE2⟩))
    go_ret2
    exact ⟨by rw [HQ.out]; rfl, Ext.tr hE hE2⟩
  have HY := hid (fun (W : World) (hW : Ext w W) => cv (planDays ds lo' hi' v' W (hv'.ext hW) hn') (vb h2))
  by_cases h3 : ds.length = xs.length
  rotate_left
  · have HQ := hid (latest_len h1 h3)
    have h5 : ¬ ((ds.length : Int) = (xs.length : Int)) := by omega
    obtain ⟨_, _, A, c, rfl, _, hcm, _⟩ := hv
    obtain ⟨_, _, A', c', rfl, _, hcm', _⟩ := hv'
    go_enter Try.func16, Try.ntmps16
    go_wp2_with (first | (go_at_call 12; refine (HC.out _ (Below.refl _ _)).mono ?_; rintro e w1 ⟨rfl, hE⟩) | (go_at_call 38; refine (HY.out _ hE).mono ?_; rintro e w2 ⟨rfl, hE2⟩))
    all_goals first | (exfalso; simp_all; done) | skip
    go_ret2
    exact ⟨by rw [HQ.out]; rfl, Ext.tr hE hE2⟩
  by_cases h4 : xs.length = 0
  · have HQ := hid (latest_nil h1 h2 h3 h4)
    obtain ⟨_, _, A, c, rfl, _, hcm, _⟩ := hv
    obtain ⟨_, _, A', c', rfl, _, hcm', _⟩ := hv'
    obtain rfl := List.eq_nil_of_length_eq_zero h4
    obtain rfl := List.eq_nil_of_length_eq_zero h3
    change Calls Try.prog 16 #[.slice A 0 c, .slice A' 0 c'] w _
    go_enter Try.func16, Try.ntmps16
    go_wp2_with (first | (go_at_call 12; refine (HC.out _ (Below.refl _ _)).mono ?_; rintro e w1 ⟨rfl, hE⟩) | (go_at_call 38; refine (HY.out _ hE).mono ?_; rintro e w2 ⟨rfl, hE2⟩))
    go_ret2
    exact ⟨by rw [HQ.out]; rfl, Ext.tr hE hE2⟩
  exact implLatestOk xs ds lo hi lo' hi' v v' w hv hs hn hv' hn' h1 h2 h3 h4
end Go.Proofs.Ytcocdigcmcpefaa
