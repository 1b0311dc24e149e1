/- Contracts of FailedDrills in both packages. -/
import Derived.Test.YtibmcailjodpkaaD28
import Derived.Test.YtibmcailjodpkaaApp
import Derived.Test.YtibmcailjodpkaaNums
namespace Go.Proofs.Ytibmcailjodpkaa
set_option linter.unusedVariables false
open Go.RowKit
def failP (xs : List Drill) (lim : Int) : Nat → Bool := tst xs (fun x => decide (0 < x.missing) || decide (lim < x.seconds))
def failed (xs : List Drill) (lim : Int) : List Int × Int :=
  if drillsB xs then (if inB lim 0 36000 then (ixs (failP xs lim) xs.length, 0) else ([], 2)) else ([], 1)
theorem failed_no {xs : List Drill} (lim : Int) (h : drillsB xs = false) : failed xs lim = ([], 1) := by unfold failed; simp [h]
theorem failed_range {xs : List Drill} {lim : Int} (h : drillsB xs = true) (h2 : inB lim 0 36000 = false) : failed xs lim = ([], 2) := by unfold failed; simp [h, h2]
theorem failed_ok {xs : List Drill} {lim : Int} (h : drillsB xs = true) (h2 : inB lim 0 36000 = true) : failed xs lim = (ixs (failP xs lim) xs.length, 0) := by unfold failed; simp [h, h2]

set_option maxRecDepth 100000 in
set_option maxHeartbeats 1000000 in
theorem specFailedDrills (xs : List Drill) (lim : Int) (lo hi : Nat) (v : Value) (w : World) (hv : Sl lo hi w 5 v xs.length (flat Drill.enc xs)) (hs : ∀ x ∈ xs, x.crew.size ≤ maxLen) (hn : xs.length ≤ 1048576) :
    Calls Try.prog 20 #[v, .int .i64 lim] w fun e w' => (∃ v', e = .returned (.tuple #[v', .int .i64 (failed xs lim).2]) ∧ Own w.heap.size w'.heap.size w' 2 1 v' (failed xs lim).1.length (flat encI (failed xs lim).1)) ∧ Ext w w' := by
  cases h1 : drillsB xs
  · have HQ := hid (failed_no lim h1)
    go_enter Try.func20, Try.ntmps20
    go_wp2_with (go_at_call 43; refine (cv (l28Ok xs lo hi v _ hv hs hn) (vb h1)).mono ?_; rintro e w1 ⟨rfl, hE⟩)
    go_ret2
    exact ⟨⟨_, by rw [HQ.out]; rfl, by rw [HQ.out]; exact Own.nil _ _ hE⟩, hE⟩
  cases h2 : inB lim 0 36000
  · have HQ := hid (failed_range h1 h2)
    go_enter Try.func20, Try.ntmps20
    go_wp2_with (first | (go_at_call 43; refine (cv (l28Ok xs lo hi v _ hv hs hn) (vb h1)).mono ?_; rintro e w1 ⟨rfl, hE⟩) | (go_at_call 50; refine (cv (l00In _ _ _ _) (vb h2)).mono ?_; rintro e w' ⟨rfl, rfl⟩))
    go_ret2
    exact ⟨⟨_, by rw [HQ.out]; rfl, by rw [HQ.out]; exact Own.nil _ _ hE⟩, hE⟩
  have HQ := hid (failed_ok h1 h2)
  have hv0 := hv
  obtain ⟨hhi, _, A, c, rfl, hnc, hcm, hcell⟩ := hv0
  go_enter Try.func20, Try.ntmps20
  go_wp2_with (first | (go_at_call 43; refine (cv (l28Ok xs lo hi _ _ hv hs hn) (vb h1)).mono ?_; rintro e w1 ⟨rfl, hE⟩) | (go_at_call 50; refine (cv (l00In _ _ _ _) (vb h2)).mono ?_; rintro e w' ⟨rfl, rfl⟩))
  have hz := hE.size
  go_loopw [6, 7] (fun u i wr => ∃ (k : Nat), k ≤ xs.length ∧ i = .int .i64 k ∧ wr.ownsRow w.heap.size 2 1 u (ixs (failP xs lim) k).length (flat encI (ixs (failP xs lim) k)) ∧ Ext w wr) (fun _ i _ => xs.length - (intOf i).toNat)
  case atStart => exact ⟨0, by omega, rfl, own_empty _ _ _ _ hz, Ext.tr hE (Ext.new _ _)⟩
  case round =>
    obtain ⟨k, hk, rfl, hown, hE3⟩ := hrel
    by_cases hlt : k < xs.length
    · obtain ⟨b, off, rfl, hb1, hb2, hc⟩ := hcell (by omega)
      have hbw : b < w.heap.size := by omega
      obtain ⟨c0, c1, c2, c3, c4⟩ := Drill.at_of hc hE3 hbw k hlt
      clear hc
      have htst := tst_at xs (fun x => decide (0 < x.missing) || decide (lim < x.seconds)) k hlt
      have hz3 := hE3.size
      have hil := ixs_len (failP xs lim) k
      by_cases hd : 0 < xs[k].missing
      · have HX := hid (ixs_yes (failP xs lim) k (by unfold failP; rw [htst]; simp [hd]))
        clear htst
        go_wp2_with (at_builtin; refine wp_append1 wr rfl (.tmp 36) (.tmp 38) _ rfl w.heap.size 2 1 8 _ Try.underlying32 infoInt rfl (by omega) (by omega) _ _ _ hown rfl [.int .i64 k] rfl (by simp [Value.oneCell']) _ rfl rfl (by omega) hz3 ?_; intro v' w' ho' hb')
        go_roundw
        case rel => exact ⟨k + 1, by omega, by go_num, by rw [HX.out, flat_snoc, List.length_append]; exact ho', hE3.trans hb'⟩
        case measure => simp [intOf]; omega
      by_cases hd2 : lim < xs[k].seconds
      · have HX := hid (ixs_yes (failP xs lim) k (by unfold failP; rw [htst]; simp [hd2]))
        clear htst
        go_wp2_with (at_builtin; refine wp_append1 wr rfl (.tmp 36) (.tmp 38) _ rfl w.heap.size 2 1 8 _ Try.underlying32 infoInt rfl (by omega) (by omega) _ _ _ hown rfl [.int .i64 k] rfl (by simp [Value.oneCell']) _ rfl rfl (by omega) hz3 ?_; intro v' w' ho' hb')
        go_roundw
        case rel => exact ⟨k + 1, by omega, by go_num, by rw [HX.out, flat_snoc, List.length_append]; exact ho', hE3.trans hb'⟩
        case measure => simp [intOf]; omega
      · have HX := hid (ixs_no (failP xs lim) k (by unfold failP; rw [htst]; simp [hd, hd2]))
        clear htst
        go_wp2
        go_roundw
        case rel => exact ⟨k + 1, by omega, by go_num, by rw [HX.out]; exact hown, hE3⟩
        case measure => simp [intOf]; omega
    · obtain rfl : k = xs.length := by omega
      go_wp2
      go_ret2
      exact ⟨⟨_, by rw [HQ.out]; rfl, by rw [HQ.out]; exact Own.of hown (by have := ixs_len (failP xs lim) xs.length; show (ixs (failP xs lim) xs.length).length ≤ _; omega)⟩, hE3⟩
section
variable {P : Program} {ops : Array Oper} {rest : List Oper} {o : Oper} {a : Act} {Q : Exit → Act → World → Prop}
theorem wp_append1x (W : World) (b0 : Nat) (hb0 : b0 = W.heap.size) (hgd : o.guard = none) (s x : Operand) (t : TypeId) (ho : o.op = .call { callee := .builtin .append, args := #[s, x], argTypes := #[t, t] })
    (base e K bytes : Nat) (z : Value) (ht : P.underlying t = some (.slice e)) (hinfo : (P.info? e).map (fun i => (i.zero, i.size, i.bytes)) = some (some z, K, bytes)) (hz : z.cells.size = K) (hK : 0 < K) (hb : bytes ≤ 1024)
    (v : Value) (n : Nat) (xs : List Value) (hown : W.ownsRow base e K v n xs) (hs : a.eval s = v) (us : List Value) (hl : us.length = K) (h1 : ∀ u ∈ us, u.oneCell' = true) (cs : Array Value) (hcs : cs = us.toArray)
    (hx : a.eval x = .slice (some ⟨b0, 0, none⟩) 1 1) (hn : n ≤ 2097152) (hbase : base ≤ W.heap.size)
    (h : ∀ v' w', w'.ownsRow base e K v' (n + 1) (xs ++ us) → Below base W w' → wpList P ops Q rest (a.put o.dst v') w') : wpList P ops Q (o :: rest) a (W.alloc (.cells cs e)) := by
  subst hb0; exact wp_append1 W hgd s x t ho base e K bytes z ht hinfo hz hK hb v n xs hown hs us hl h1 cs hcs hx hn hbase h
end
set_option maxRecDepth 100000 in
set_option maxHeartbeats 1000000 in
theorem implFailedDrills (xs : List Drill) (lim : Int) (lo hi : Nat) (v : Value) (w : World) (hv : Sl lo hi w 5 v xs.length (flat Drill.enc xs)) (hs : ∀ x ∈ xs, x.crew.size ≤ maxLen) (hn : xs.length ≤ 1048576) :
    Calls Try.prog 21 #[v, .int .i64 lim] w fun e w' => (∃ v', e = .returned (.tuple #[v', .int .i64 (failed xs lim).2]) ∧ Own w.heap.size w'.heap.size w' 2 1 v' (failed xs lim).1.length (flat encI (failed xs lim).1)) ∧ Ext w w' := by
  cases h1 : drillsB xs
  · have HQ := hid (failed_no lim h1)
    go_enter Try.func21, Try.ntmps21
    go_wp2_with (go_at_call 14; refine (cv (implValidDrills xs lo hi v _ hv hs hn) (vb h1)).mono ?_; rintro e w1 ⟨rfl, hE⟩)
    go_ret2
    exact ⟨⟨_, by rw [HQ.out]; rfl, by rw [HQ.out]; exact Own.nil _ _ hE⟩, hE⟩
  cases h2 : inB lim 0 36000
  · have HQ := hid (failed_range h1 h2)
    go_enter Try.func21, Try.ntmps21
    go_wp2_with (first | (go_at_call 14; refine (cv (implValidDrills xs lo hi v _ hv hs hn) (vb h1)).mono ?_; rintro e w1 ⟨rfl, hE⟩) | (go_at_call 51; refine (cv (within _ _ _ _) (vb h2)).mono ?_; rintro e w' ⟨rfl, rfl⟩))
    go_ret2
    exact ⟨⟨_, by rw [HQ.out]; rfl, by rw [HQ.out]; exact Own.nil _ _ hE⟩, hE⟩
  have HQ := hid (failed_ok h1 h2)
  have hv0 := hv
  obtain ⟨hhi, _, A, c, rfl, hnc, hcm, hcell⟩ := hv0
  go_enter Try.func21, Try.ntmps21
  go_wp2_with (first | (go_at_call 14; refine (cv (implValidDrills xs lo hi _ _ hv hs hn) (vb h1)).mono ?_; rintro e w1 ⟨rfl, hE⟩) | (go_at_call 51; refine (cv (within _ _ _ _) (vb h2)).mono ?_; rintro e w' ⟨rfl, rfl⟩))
  have hz := hE.size
  go_loopw [6, 19] (fun u i wr => ∃ (k : Nat), k ≤ xs.length ∧ i = .int .i64 k ∧ wr.ownsRow w.heap.size 2 1 u (ixs (failP xs lim) k).length (flat encI (ixs (failP xs lim) k)) ∧ Ext w wr) (fun _ i _ => xs.length - (intOf i).toNat)
  case atStart => exact ⟨0, by omega, rfl, World.ownsRow_nil _ _ _ _, hE⟩
  case round =>
    obtain ⟨k, hk, rfl, hown, hE3⟩ := hrel
    by_cases hlt : k < xs.length
    · obtain ⟨b, off, rfl, hb1, hb2, hc⟩ := hcell (by omega)
      have hbw : b < w.heap.size := by omega
      obtain ⟨c0, c1, c2, c3, c4⟩ := Drill.at_of hc hE3 hbw k hlt
      clear hc
      have htst := tst_at xs (fun x => decide (0 < x.missing) || decide (lim < x.seconds)) k hlt
      have hz3 := hE3.size
      have hil := ixs_len (failP xs lim) k
      have hEn := Ext.new wr (.cells #[.int .i64 xs[k].day, .string xs[k].crew, .int .i64 xs[k].persons, .int .i64 xs[k].seconds, .int .i64 xs[k].missing] 52)
      have how := ownE hown hEn
      have hz4 := Nat.le_trans hz3 hEn.size
      by_cases hd : 0 < xs[k].missing
      · have HX := hid (ixs_yes (failP xs lim) k (by unfold failP; rw [htst]; simp [hd]))
        clear htst
        go_wp2_with (at_builtin; refine wp_append1x (wr.alloc (.cells #[.int .i64 xs[k].day, .string xs[k].crew, .int .i64 xs[k].persons, .int .i64 xs[k].seconds, .int .i64 xs[k].missing] 52)) (wr.heap.size + 1) (by simp) rfl (.tmp 33) (.tmp 35) _ rfl w.heap.size 2 1 8 _ Try.underlying32 infoInt rfl (by omega) (by omega) _ _ _ how rfl [.int .i64 k] rfl (by simp [Value.oneCell']) _ rfl rfl (by omega) hz4 ?_; intro v' w' ho' hb')
        go_roundw
        case rel => exact ⟨k + 1, by omega, by go_num, by rw [HX.out, flat_snoc, List.length_append]; exact ho', (Ext.tr hE3 (Ext.new _ _)).trans hb'⟩
        case measure => simp [intOf]; omega
      by_cases hd2 : lim < xs[k].seconds
      · have HX := hid (ixs_yes (failP xs lim) k (by unfold failP; rw [htst]; simp [hd2]))
        clear htst
        go_wp2_with (at_builtin; refine wp_append1x (wr.alloc (.cells #[.int .i64 xs[k].day, .string xs[k].crew, .int .i64 xs[k].persons, .int .i64 xs[k].seconds, .int .i64 xs[k].missing] 52)) (wr.heap.size + 1) (by simp) rfl (.tmp 33) (.tmp 35) _ rfl w.heap.size 2 1 8 _ Try.underlying32 infoInt rfl (by omega) (by omega) _ _ _ how rfl [.int .i64 k] rfl (by simp [Value.oneCell']) _ rfl rfl (by omega) hz4 ?_; intro v' w' ho' hb')
        go_roundw
        case rel => exact ⟨k + 1, by omega, by go_num, by rw [HX.out, flat_snoc, List.length_append]; exact ho', (Ext.tr hE3 (Ext.new _ _)).trans hb'⟩
        case measure => simp [intOf]; omega
      · have HX := hid (ixs_no (failP xs lim) k (by unfold failP; rw [htst]; simp [hd, hd2]))
        clear htst
        go_wp2
        go_roundw
        case rel => exact ⟨k + 1, by omega, by go_num, by rw [HX.out]; exact ownE hown (Ext.new _ _), Ext.tr hE3 (Ext.new _ _)⟩
        case measure => simp [intOf]; omega
    · obtain rfl : k = xs.length := by omega
      go_wp2
      go_ret2
      exact ⟨⟨_, by rw [HQ.out]; rfl, by rw [HQ.out]; exact Own.of hown (by have := ixs_len (failP xs lim) xs.length; show (ixs (failP xs lim) xs.length).length ≤ _; omega)⟩, hE3⟩
end Go.Proofs.Ytibmcailjodpkaa
