/- Texts of this claim joined into one; each part says what it proves and on what conditions. -/
import Derived.Test.YtopjccbjdcoanaaDrawF
import Derived.Test.YtopjccbjdcoanaaApp3
import Derived.Test.YtopjccbjdcoanaaXSS
import Derived.Test.YtopjccbjdcoanaaMark
import Derived.Test.YtopjccbjdcoanaaMonP
import Derived.Test.YtopjccbjdcoanaaAnyL
import Derived.Test.YtopjccbjdcoanaaDraw
import Derived.OpenShut
/- The draw of a search for the fewest sensors. A contract that tells sizes alone. -/
namespace Go.Proofs.Ytopjccbjdcoanaa
set_option linter.unusedVariables false
open Go.RowKit
theorem GrowN.keepI {α : Type} {N : Nest α} {t t2 lo a b : Nat} {w w' : World} {v : Value} {ys : List (α × Value)} (h : GrowN N t t2 lo w v ys) (hK : KeepI a b w w') (hb : b ≤ lo) : GrowN N t t2 lo w' v ys := by
  obtain ⟨h0, h1, h2, h3⟩ := h
  exact ⟨Nat.le_trans h0 hK.size, row_keep h1 hK hb, fun p hp => ((h2 p hp).keep hK (.inr hb)).more (Nat.le_refl _) hK.size (Nat.le_refl _), h3⟩
theorem SlN.weak {α : Type} {N : Nest α} {lo hi lo' hi' : Nat} {w : World} {v : Value} {xs : List α} (h : SlN N lo hi w v xs) (h1 : lo' ≤ lo) (h2 : hi ≤ hi') (h3 : hi' ≤ w.heap.size) : SlN N lo' hi' w v xs := by
  obtain ⟨ys, a, b, c⟩ := h
  exact ⟨ys, a, b.weak h1 h2 h3, fun p hp => (c p hp).weak h1 h2 h3⟩
theorem GrowN.slSS {lo : Nat} {w : World} {v : Value} {ys : List (List Int × Value)} {xs : List (List Int)} (h : GrowN nSS 27 2 lo w v ys) (hx : ys.map Prod.fst = xs) (hn : ys.length ≤ 1048576) : SlSS 0 w.heap.size w v xs := by
  obtain ⟨h0, h1, h2, h3⟩ := h
  have hl : ys.length = xs.length := by rw [← hx]; simp
  refine ⟨ys, hx, ?_, fun p hp => Sl.weak (h2 p hp).sl (Nat.zero_le _) (Nat.le_refl _) (Nat.le_refl _)⟩
  have := Sl.of_own h1 (by unfold maxLen; omega)
  rw [← hl]
  exact Sl.weak this (Nat.zero_le _) (Nat.le_refl _) (Nat.le_refl _)
theorem tot_le {xs : List (List Int)} {k : Nat} (h : ∀ x ∈ xs, x.length ≤ k) : totN nSS xs ≤ xs.length * k := by
  induction xs with
  | nil => simp [totN]
  | cons x xs ih =>
    have h1 := h x (List.mem_cons_self ..)
    have h2 := ih (fun y hy => h y (List.mem_cons_of_mem _ hy))
    unfold totN at *
    rw [List.map_cons, List.sum_cons, List.length_cons, Nat.add_mul]
    have : nSS.n x = x.length := rfl
    omega
set_option maxRecDepth 100000 in
set_option maxHeartbeats 2000000 in
theorem drawFewest (bs : List Int) (lo hi : Nat) (v : Value) (w : World) (hv : Sl lo hi w 1 v bs.length (flat encB bs)) (hb : ∀ b ∈ bs, 0 ≤ b ∧ b ≤ 255) :
    Calls Try.prog 11 #[v] w fun e w' => (∃ (vt : Value) (ts : List (List Int)) (lim bud : Int), e = .returned (.tuple #[vt, .int .i64 lim, .int .i64 bud]) ∧ ts.length ≤ 6 ∧ (∀ t ∈ ts, t.length ≤ 17) ∧ SlSS 0 w'.heap.size w' vt ts) ∧ Ext w w' := by
  have HF := hid (l00From bs lo hi v w hv hb)
  clear hv
  go_enter Try.func11, Try.ntmps11
  go_wp2_with fail
  refine HF.out.mono ?_
  rintro e w0 ⟨rfl, hS0, hE0⟩
  have hg := hS0.lt
  have HS0 := hid hS0
  have HE0 := hid hE0
  clear hS0 hE0 HF
  generalize hG : w.heap.size = G at *
  go_wp2_with fail
  refine (srcPick G 0 6 w0 HS0.out (by omega) ⟨by omega, by omega⟩).mono ?_
  rintro e w1 ⟨⟨n, rfl, hn0, hn1⟩, hS⟩
  have HS1 := hid hS
  obtain ⟨n, rfl⟩ := Int.eq_ofNat_of_zero_le hn0
  have HN6 := hid (show (1 : Int) + n = ((1 + n : Nat) : Int) by omega)
  clear hS HS0
  have hz1 := HS1.out.size
  go_wp2_with fail
  have HG1 : Hid (GrowN nSS 27 2 w0.heap.size (w1.alloc (.cells #[] 27)) (.slice (some ⟨w1.heap.size, 0, none⟩) 0 0) []) := hid (GrowN.empty hz1)
  refine (srcPick G (0 + 2) 6 _ (HS1.out.1.ext (Ext.new _ _)) (by omega) ⟨by omega, by omega⟩).mono ?_
  rintro e w2 ⟨⟨q, rfl, hq0, hq1⟩, hS⟩
  have HS2 := hid ((HS1.out.ext (Ext.new _ _)).tr hS)
  have HG2 := hid (HG1.out.keepI hS.2 (by omega))
  obtain ⟨q, rfl⟩ := Int.eq_ofNat_of_zero_le hq0
  clear hS HG1 HS1
  rw [HN6.out]
  go_wp2
  go_loopw [7, 8] (fun u i W => ∃ (k : Nat) (ys : List (List Int × Value)), k ≤ q ∧ i = .int .i64 k ∧ Hid (ys.length + k = q) ∧ Hid (∀ p ∈ ys, p.1.length ≤ 17) ∧ Hid (GrowN nSS 27 2 w0.heap.size W u ys) ∧ Hid (SrcTo G (0 + 4 + 36 * (q - k)) w0 W)) (fun _ i _ => (intOf i).toNat)
  case atStart => exact ⟨q, [], Nat.le_refl _, rfl, hid (by simp), hid (fun p hp => by cases hp), HG2, hid (HS2.out.more (by omega))⟩
  case round =>
    clear HG2 HS2
    obtain ⟨k, ys, hk, rfl, HL, HC, HG, HS⟩ := hrel
    have hql := HL.out
    by_cases hlt : 0 < k
    · have hk' : (0 : Int) < k := by omega
      go_wp2_with fail
      refine (drawTimes G (0 + 4 + 36 * (q - k)) (1 + n) wr HS.out.1 (by omega) (by omega)).mono ?_
      rintro e w3 ⟨⟨vt, ts, rfl, htl, hO⟩, hS⟩
      have HS3 := hid (HS.out.tr hS)
      have HG3 := hid (HG.out.keepI hS.2 (by omega))
      have HU := hid (Own.of hO (by omega))
      have hlat := HG.out.later HU.out (Nat.le_refl _)
      have hz3 := HS3.out.size
      have hzr := HS.out.size
      obtain ⟨At, ct, rfl⟩ := own_slice0 hO
      clear hS hO HG HS
      go_wp2_with (at_builtin; refine wp_grow (N := nSS) w3 w3.heap.size rfl rfl (.tmp 22) (.tmp 26) _ rfl w0.heap.size 27 24 _ Try.underlying24 infoSS rfl (by decide) (by omega) 2 _ _ HG3.out rfl (ts, .slice At ts.length ct) rfl (by intro u hu; simp [nSS, encSS] at hu; subst hu; rfl) _ rfl rfl (by omega) (HU.out.more hzr (Nat.le_refl _) (Nat.le_refl _)) hlat.1 hlat.2 ?_; intro v' w' hG3 hb3)
      go_roundw
      case rel => exact ⟨k - 1, ys ++ [(ts, .slice At ts.length ct)], by omega, congrArg _ (by omega), hid (by simp; omega), hid (fun p hp => by rcases List.mem_append.1 hp with hp | hp; exact HC.out p hp; rw [List.mem_singleton] at hp; subst hp; exact htl), hid hG3, hid ((HS3.out.below hb3 (Nat.le_refl _) hz3 hg).more (by omega))⟩
      case measure => simp [intOf]; omega
    · obtain rfl : k = 0 := by omega
      go_wp2_with fail
      refine (amongLit G (0 + 4 + 36 * (q - 0)) [0, 5, 20, 60, 100, -1] w0 wr HS.out (by omega) (by simp) _ rfl _ rfl hg).mono ?_
      rintro e w3 ⟨⟨l, rfl, _⟩, hS, hK⟩
      have HS3 := hid hS
      have HG3 := hid (HG.out.keepI hK (by omega))
      clear hS hK HG HS
      go_wp2_with fail
      refine (amongLit G (0 + 4 + 36 * (q - 0) + 2) [1, 6, 64, 300, 20000, 0] w0 w3 HS3.out (by omega) (by simp) _ rfl _ rfl hg).mono ?_
      rintro e w4 ⟨⟨b, rfl, _⟩, hS, hK⟩
      have HS4 := hid hS
      have HG4 := hid (HG3.out.keepI hK (by omega))
      clear hS hK HG3 HS3
      go_wp2
      go_ret3
      exact ⟨⟨_, ys.map Prod.fst, l, b, rfl, by simp; omega, fun t ht => by obtain ⟨p, hp, rfl⟩ := List.mem_map.1 ht; exact HC.out p hp, HG4.out.slSS rfl (by omega)⟩, HS4.out.out HE0.out (by omega)⟩
end Go.Proofs.Ytopjccbjdcoanaa
/- Drawn lists of sensors. A contract that tells sizes alone. -/
namespace Go.Proofs.Ytopjccbjdcoanaa
set_option linter.unusedVariables false
open Go.RowKit
def Ids10 (xs : List Sensor) : Prop := ∀ x ∈ xs, x.id.size ≤ 10
theorem conv1S (W : World) (x : Int) : (convert 22 9 (.slice (some ⟨W.heap.size, 0, none⟩) 1 1)).run Try.prog (W.alloc (.cells #[.int .u8 x] 5)) = .ok (.string ⟨#[UInt8.ofNat x.toNat]⟩) (W.alloc (.cells #[.int .u8 x] 5)) := by
  have := run_convert_bytes_arg (P := Try.prog) (W.alloc (.cells #[.int .u8 x] 5)) 22 5 Try.underlying22 Try.underlying5 W.heap.size 0 1 1 [x] rfl (fun i hi => by
    obtain rfl : i = 0 := by omega
    simp) 9 Try.underlying9
  rw [this]; rfl
theorem ids_snoc {xs : List Sensor} {x : Sensor} (h : Ids10 xs) (hx : x.id.size ≤ 10) : Ids10 (xs ++ [x]) := fun z hz => by
  rcases List.mem_append.1 hz with hz | hz
  · exact h z hz
  · rw [List.mem_singleton] at hz; subst hz; exact hx
def nm3 : List ByteArray := [⟨#[115, 49]⟩, ⟨#[115, 50]⟩, ⟨#[115, 51]⟩]
theorem nm3_sz (k : Nat) (h : k < nm3.length) : nm3[k].size ≤ 10 := by
  have : k = 0 ∨ k = 1 ∨ k = 2 := by simp [nm3] at h; omega
  rcases this with rfl | rfl | rfl
  · exact (by decide : (⟨#[115, 49]⟩ : ByteArray).size ≤ 10)
  · exact (by decide : (⟨#[115, 50]⟩ : ByteArray).size ≤ 10)
  · exact (by decide : (⟨#[115, 51]⟩ : ByteArray).size ≤ 10)
theorem nm3_cell {w : World} {g : Nat} {t : TypeId} (h : Blk w g t #[.string ⟨#[115, 49]⟩, .string ⟨#[115, 50]⟩, .string ⟨#[115, 51]⟩]) (k : Nat) (hk : k < nm3.length) : w.cell? ⟨g, k, none⟩ = some (.string nm3[k]) := by
  have : k = 0 ∨ k = 1 ∨ k = 2 := by simp [nm3] at hk; omega
  rcases this with rfl | rfl | rfl
  · exact h.cell 0
  · exact h.cell 1
  · exact h.cell 2
set_option maxRecDepth 100000 in
set_option maxHeartbeats 4000000 in
theorem drawSensors (g n : Nat) (w : World) (h : Src g n w) (hn : n ≤ 536870912) :
    Calls Try.prog 62 #[.pointer (some ⟨g, 0, none⟩)] w fun e w' => (∃ (v' : Value) (xs : List Sensor), e = .returned v' ∧ xs.length ≤ 17 ∧ Ids10 xs ∧ w'.ownsRow w.heap.size 40 5 v' xs.length (flat Sensor.enc xs)) ∧ SrcTo g (n + 300) w w' := by
  have hg := h.lt
  have H := hid h
  clear h
  have h3 : nm3.length = 3 := rfl
  go_enter Try.func62, Try.ntmps62
  go_wp2
  have HB0 := hid (show Blk ((w.alloc (.cells #[.string ⟨#[115, 49]⟩, .string ⟨#[115, 50]⟩, .string ⟨#[115, 51]⟩] 9)).alloc (.cells #[] 40)) w.heap.size 9 #[.string ⟨#[115, 49]⟩, .string ⟨#[115, 50]⟩, .string ⟨#[115, 51]⟩] from (Blk.new _ _ _).ext (Ext.new _ _))
  have HO0 : Hid (((w.alloc (.cells #[.string ⟨#[115, 49]⟩, .string ⟨#[115, 50]⟩, .string ⟨#[115, 51]⟩] 9)).alloc (.cells #[] 40)).ownsRow (w.heap.size + 1) 40 5 (.slice (some ⟨w.heap.size + 1, 0, none⟩) 0 0) 0 []) := hid (by
    have := own_empty (w.alloc (.cells #[.string ⟨#[115, 49]⟩, .string ⟨#[115, 50]⟩, .string ⟨#[115, 51]⟩] 9)) (w.heap.size + 1) 40 5 (by simp)
    simpa using this)
  go_loopw [4, 5] (fun u i W => ∃ (k : Nat) (xs : List Sensor), k ≤ 3 ∧ i = .int .i64 k ∧ Hid (xs.length ≤ k) ∧ Hid (Ids10 xs) ∧ Hid (W.ownsRow (w.heap.size + 1) 40 5 u xs.length (flat Sensor.enc xs)) ∧ Hid (Blk W w.heap.size 9 #[.string ⟨#[115, 49]⟩, .string ⟨#[115, 50]⟩, .string ⟨#[115, 51]⟩]) ∧ Hid (SrcTo g (n + 10 * k) w W)) (fun _ i _ => 3 - (intOf i).toNat)
  case atStart => exact ⟨0, [], Nat.zero_le _, rfl, hid (Nat.le_refl _), hid (fun x hx => by cases hx), HO0, HB0, hid (SrcTo.of H.out (Ext.tr (Ext.new _ _) (Ext.new _ _)))⟩
  case round =>
    clear HO0 HB0
    obtain ⟨k, xs, hk, rfl, HL, HC, HO, HB, HS⟩ := hrel
    have hql := HL.out
    by_cases hlt : k < 3
    · go_wp2_with fail
      refine (srcOne g (n + 10 * k) 3 wr HS.out.1 (by omega) ⟨by omega, by omega⟩).mono ?_
      rintro e w2 ⟨⟨b, rfl⟩, hS⟩
      have HS2 := hid (HS.out.tr hS)
      have HO2 := hid (row_keep HO.out hS.2 (by omega))
      have HB2 := hid (HB.out.keep hS.2 (.inr (by omega)))
      clear hS HO HB HS
      cases b
      · have c0 := nm3_cell HB2.out k (by omega)
        have HX := hid (nm3_sz k (by omega))
        have hki : (k : Int) < 3 := by omega
        generalize nm3[k] = s at *
        go_wp2_with fail
        refine (drawOne g (n + 10 * k + 2) s w2 HS2.out.1 (by omega)).mono ?_
        rintro e w3 ⟨⟨x, rfl, hxi, _⟩, hS⟩
        have HXI : Hid (x.id.size ≤ 10) := hid (by rw [hxi]; exact HX.out)
        have HS3 := hid (HS2.out.tr hS)
        have HO3 := hid (row_keep HO2.out hS.2 (by omega))
        have HB3 := hid (HB2.out.keep hS.2 (.inr (by omega)))
        have hz3 := HB3.out.lt
        clear hS HO2 HB2 HS2 hxi c0
        unfold sAgg
        go_wp2_with (at_builtin; refine wp_append1 w3 rfl (.tmp 19) (.tmp 26) _ rfl (w.heap.size + 1) 40 5 48 _ Try.underlying32 infoSensor rfl (by omega) (by omega) _ _ _ HO3.out rfl [.string x.id, .int .i64 x.junction, .int .i64 x.limit, .int .i64 x.delay, .int .i64 x.release] rfl (by simp [Value.oneCell']) _ rfl rfl (by omega) hz3 ?_; intro v' w' ho' hb')
        have HS4 := hid (HS3.out.below hb' (by omega) hz3 (by omega))
        have HB4 := hid (show Blk w' w.heap.size 9 _ from (hb'.block w.heap.size (Nat.lt_succ_self _)).trans HB3.out)
        go_roundw
        case rel => exact ⟨k + 1, xs ++ [x], by omega, by go_num, hid (by simp; omega), hid (ids_snoc HC.out HXI.out), hid (by rw [flat_snoc, List.length_append]; exact ho'), HB4, hid (HS4.out.more (by omega))⟩
        case measure => simp [intOf]; omega
      · go_wp2
        go_roundw
        case rel => exact ⟨k + 1, xs, by omega, by go_num, hid (by omega), HC, HO2, HB2, hid (HS2.out.more (by omega))⟩
        case measure => simp [intOf]; omega
    · obtain rfl : k = 3 := by omega
      have hbl := HB.out.lt
      go_wp2_with fail
      refine (srcPick g (n + 10 * 3) 20 wr HS.out.1 (by omega) ⟨by omega, by omega⟩).mono ?_
      rintro e w2 ⟨⟨c, rfl, hc0, hc1⟩, hS⟩
      have HS2 := hid (HS.out.tr hS)
      have HO2 := hid (row_keep HO.out hS.2 (by omega))
      have hz2 := hS.2.size
      clear hS HO HS HB
      have hcc : c = 0 ∨ c = 1 ∨ (¬ c = 0 ∧ ¬ c = 1) := by omega
      rcases hcc with rfl | rfl | ⟨hn0, hn1⟩
      · go_wp2_with fail
        refine (drawOne g (n + 10 * 3 + 2) ⟨#[122, 122]⟩ w2 HS2.out.1 (by omega)).mono ?_
        rintro e w3 ⟨⟨x, rfl, hxi, hxs⟩, hS⟩
        have HXI : Hid (x.id.size ≤ 10) := hid (by rw [hxi]; decide)
        have HS3 := hid (HS2.out.tr hS)
        have HO3 := hid (row_keep HO2.out hS.2 (by omega))
        have hz3 := hS.2.size
        clear hS hxi
        go_wp2_with fail
        refine (bend g (n + 10 * 3 + 2 + 8) x hxs w3 HS3.out.1 (by omega)).mono ?_
        rintro e w4 ⟨⟨y, rfl, hyi, _⟩, hS⟩
        have HYI : Hid (y.id.size ≤ 10) := hid (by rw [hyi]; exact HXI.out)
        have HS4 := hid (HS3.out.tr hS)
        have HO4 := hid (row_keep HO3.out hS.2 (by omega))
        have hz4 := hS.2.size
        clear hS hyi hxs
        unfold sAgg
        go_wp2_with (at_builtin; refine wp_append1 w4 rfl (.tmp 32) (.tmp 37) _ rfl (w.heap.size + 1) 40 5 48 _ Try.underlying32 infoSensor rfl (by omega) (by omega) _ _ _ HO4.out rfl [.string y.id, .int .i64 y.junction, .int .i64 y.limit, .int .i64 y.delay, .int .i64 y.release] rfl (by simp [Value.oneCell']) _ rfl rfl (by omega) (by omega) ?_; intro v' w' ho' hb')
        have HS5 := hid (HS4.out.below hb' (by omega) (by omega) (by omega))
        go_ret
        exact ⟨⟨_, xs ++ [y], rfl, by simp; omega, ids_snoc HC.out HYI.out, by rw [flat_snoc, List.length_append]; exact row_low ho' (by omega)⟩, HS5.out.more (by omega)⟩
      · go_wp2_with fail
        refine (amongLit g (n + 10 * 3 + 2) [16, 17] w w2 HS2.out (by omega) (by simp) _ rfl _ rfl hg).mono ?_
        rintro e w3 ⟨⟨y, rfl, hy⟩, hS, _⟩
        obtain ⟨m, rfl, hm⟩ : ∃ m : Nat, y = (m : Int) ∧ m ≤ 17 := by
          simp only [List.mem_cons, List.not_mem_nil, or_false] at hy
          rcases hy with rfl | rfl
          · exact ⟨16, rfl, by omega⟩
          · exact ⟨17, rfl, by omega⟩
        have HS3 := hid hS
        have hz3 := hS.size
        clear hS hy
        go_wp2
        go_loopw [4, 7] (fun u i W => ∃ (k : Nat) (xs : List Sensor), k ≤ m ∧ i = .int .i64 k ∧ Hid (xs.length = k) ∧ Hid (Ids10 xs) ∧ Hid (W.ownsRow w.heap.size 40 5 u k (flat Sensor.enc xs)) ∧ Hid (SrcTo g (n + 10 * 3 + 2 + 2 + 8 * k) w W)) (fun _ i _ => m - (intOf i).toNat)
        case atStart => exact ⟨0, [], Nat.zero_le _, rfl, hid rfl, hid (fun x hx => by cases hx), hid (row_low (own_empty w3 w3.heap.size 40 5 (Nat.le_refl _)) hz3), hid (HS3.out.ext (Ext.new _ _))⟩
        case round =>
          clear HO2 HS2 HS3
          obtain ⟨k, ys, hk2, rfl, HL2, HC2, HO2, HS2⟩ := hrel
          by_cases hlt2 : k < m
          · have hcv := conv1S
            have hz2 := HS2.out.size
            go_wp2_with fail
            clear hcv
            generalize hwx : wr.alloc _ = wx
            have HSx := hid (show SrcTo g (n + 10 * 3 + 2 + 2 + 8 * k) w wx by rw [← hwx]; exact HS2.out.ext (Ext.new _ _))
            have HOx := hid (show wx.ownsRow w.heap.size 40 5 u4 k (flat Sensor.enc ys) by rw [← hwx]; exact ownE HO2.out (Ext.new _ _))
            clear hwx
            generalize hsd : (⟨#[110]⟩ ++ _ : ByteArray) = sid
            have HSD : Hid (sid.size ≤ 10) := hid (by rw [← hsd, ByteArray.size_append]; show 1 + 1 ≤ 10; omega)
            clear hsd
            refine (drawOne g (n + 10 * 3 + 2 + 2 + 8 * k) sid wx HSx.out.1 (by omega)).mono ?_
            rintro e w4 ⟨⟨x, rfl, hxi, _⟩, hS⟩
            have HXI : Hid (x.id.size ≤ 10) := hid (by rw [hxi]; exact HSD.out)
            have HS4 := hid (HSx.out.tr hS)
            have HO4 := hid (row_keep HOx.out hS.2 (by omega))
            have hz4 := HS4.out.size
            clear hS hxi HSx HOx
            unfold sAgg
            go_wp2_with (at_builtin; refine wp_append1 w4 rfl (.tmp 50) (.tmp 59) _ rfl w.heap.size 40 5 48 _ Try.underlying32 infoSensor rfl (by omega) (by omega) _ _ _ HO4.out rfl [.string x.id, .int .i64 x.junction, .int .i64 x.limit, .int .i64 x.delay, .int .i64 x.release] rfl (by simp [Value.oneCell']) _ rfl rfl (by omega) hz4 ?_; intro v' w' ho' hb')
            have HS5 := hid (HS4.out.below hb' (Nat.le_refl _) hz4 hg)
            go_roundw
            case rel => exact ⟨k + 1, ys ++ [x], by omega, by go_num, hid (by simp [HL2.out]), hid (ids_snoc HC2.out HXI.out), hid (by rw [flat_snoc]; exact ho'), hid (HS5.out.more (by omega))⟩
            case measure => simp [intOf]; omega
          · obtain rfl : k = m := by omega
            go_wp2
            go_ret
            exact ⟨⟨_, ys, rfl, by rw [HL2.out]; exact hm, HC2.out, by rw [HL2.out]; exact HO2.out⟩, HS2.out.more (by omega)⟩
      · have e0 : (c == 0) = false := by simpa using hn0
        have e1 : (c == 1) = false := by simpa using hn1
        clear hn0 hn1
        go_wp2
        go_ret
        exact ⟨⟨_, xs, rfl, by omega, HC.out, row_low HO2.out (by omega)⟩, HS2.out.more (by omega)⟩
end Go.Proofs.Ytopjccbjdcoanaa
/- The draw of a first alarm: sensors with series. A contract that tells sizes alone. -/
namespace Go.Proofs.Ytopjccbjdcoanaa
set_option linter.unusedVariables false
open Go.RowKit
set_option maxRecDepth 100000 in
set_option maxHeartbeats 2000000 in
theorem drawFirst (bs : List Int) (lo hi : Nat) (v : Value) (w : World) (hv : Sl lo hi w 1 v bs.length (flat encB bs)) (hb : ∀ b ∈ bs, 0 ≤ b ∧ b ≤ 255) :
    Calls Try.prog 15 #[v] w fun e w' => (∃ (vl vs : Value) (xs : List Sensor) (ss : List (List Int)), e = .returned (.tuple #[vl, vs]) ∧ xs.length ≤ 17 ∧ Ids10 xs ∧ ss.length ≤ 18 ∧ (∀ t ∈ ss, t.length ≤ 201) ∧ Sl 0 w'.heap.size w' 5 vl xs.length (flat Sensor.enc xs) ∧ SlSS 0 w'.heap.size w' vs ss) ∧ Ext w w' := by
  have HF := hid (l00From bs lo hi v w hv hb)
  clear hv
  go_enter Try.func15, Try.ntmps15
  go_wp2_with fail
  refine HF.out.mono ?_
  rintro e w0 ⟨rfl, hS0, hE0⟩
  have hg := hS0.lt
  have HS0 := hid hS0
  have HE0 := hid hE0
  clear hS0 hE0 HF
  generalize hG : w.heap.size = G at *
  go_wp2_with fail
  refine (drawSensors G 0 w0 HS0.out (by omega)).mono ?_
  rintro e w1 ⟨⟨vl, xs, rfl, hxl, hxi, hO⟩, hS⟩
  have HL1 := hid (Own.of hO (by omega))
  have HS1 := hid hS
  have HXI := hid hxi
  obtain ⟨Al, cl, rfl⟩ := own_slice0 hO
  have hz1 := hS.size
  have hgw1 : G < w1.heap.size := by omega
  clear hO hS hxi HS0
  go_wp2
  go_loopw [6, 7] (fun u i W => ∃ (k : Nat) (ys : List (List Int × Value)), k ≤ xs.length ∧ i = .int .i64 k ∧ Hid (ys.length = k) ∧ Hid (∀ p ∈ ys, p.1.length ≤ 201) ∧ Hid (GrowN nSS 27 2 w1.heap.size W u ys) ∧ Hid (Own w0.heap.size w1.heap.size W 40 5 (.slice Al xs.length cl) xs.length (flat Sensor.enc xs)) ∧ Hid (SrcTo G (0 + 300 + 200 * k) w0 W)) (fun _ i _ => xs.length - (intOf i).toNat)
  case atStart => exact ⟨0, [], Nat.zero_le _, rfl, hid rfl, hid (fun p hp => by cases hp), hid (GrowN.empty (Nat.le_refl _)), hid (HL1.out.ext (Ext.new _ _)), hid (HS1.out.ext (Ext.new _ _))⟩
  case round =>
    clear HL1 HS1
    obtain ⟨k, ys, hk, rfl, HL, HC, HG, HO, HS⟩ := hrel
    have hql := HL.out
    have hzr1 := HG.out.1
    by_cases hlt : k < xs.length
    · go_wp2_with fail
      refine (drawSeries G (0 + 300 + 200 * k) wr HS.out.1 (by omega)).mono ?_
      rintro e w3 ⟨⟨vt, ts, rfl, htl, hO3⟩, hS⟩
      have HS3 := hid (HS.out.tr hS)
      have HG3 := hid (HG.out.keepI hS.2 (by omega))
      have HO3 := hid (HO.out.keep hS.2 (.inr (by omega)))
      have HU := hid (Own.of hO3 (by omega))
      have hlat := HG.out.later HU.out (Nat.le_refl _)
      have hz3 := hS.2.size
      obtain ⟨At, ct, rfl⟩ := own_slice0 hO3
      clear hS hO3 HG HS HO
      go_wp2_with (at_builtin; refine wp_grow (N := nSS) w3 w3.heap.size rfl rfl (.tmp 19) (.tmp 22) _ rfl w1.heap.size 27 24 _ Try.underlying24 infoSS rfl (by decide) (by omega) 2 _ _ HG3.out rfl (ts, .slice At ts.length ct) rfl (by intro u hu; simp [nSS, encSS] at hu; subst hu; rfl) _ rfl rfl (by omega) (HU.out.more hzr1 (Nat.le_refl _) (Nat.le_refl _)) hlat.1 hlat.2 ?_; intro v' w' hG3 hb3)
      go_roundw
      case rel => exact ⟨k + 1, ys ++ [(ts, .slice At ts.length ct)], by omega, by go_num, hid (by simp; omega), hid (fun p hp => by rcases List.mem_append.1 hp with hp | hp; exact HC.out p hp; rw [List.mem_singleton] at hp; subst hp; exact htl), hid hG3, hid (HO3.out.below hb3 (Nat.le_refl _)), hid ((HS3.out.below hb3 (by omega) (by omega) hgw1).more (by omega))⟩
      case measure => simp [intOf]; omega
    · obtain rfl : k = xs.length := by omega
      go_wp2_with fail
      refine (srcOne G (0 + 300 + 200 * xs.length) 14 wr HS.out.1 (by omega) ⟨by omega, by omega⟩).mono ?_
      rintro e w3 ⟨⟨b, rfl⟩, hS⟩
      have HS3 := hid (HS.out.tr hS)
      have HG3 := hid (HG.out.keepI hS.2 (by omega))
      have HO3 := hid (HO.out.keep hS.2 (.inr (by omega)))
      have hz3 := hS.2.size
      clear hS HG HS HO
      cases b
      · go_wp2
        go_ret2
        exact ⟨⟨_, _, xs, ys.map Prod.fst, rfl, hxl, HXI.out, by simp; omega, fun t ht => by obtain ⟨p, hp, rfl⟩ := List.mem_map.1 ht; exact HC.out p hp, Sl.weak HO3.out.sl (Nat.zero_le _) (by omega) (Nat.le_refl _), HG3.out.slSS rfl (by omega)⟩, HS3.out.out HE0.out (by omega)⟩
      · have HG4 := hid (HG3.out.ext (Ext.new w3 (.cells #[] 2)))
        have HU := hid (show Own w3.heap.size (w3.alloc (.cells #[] 2)).heap.size (w3.alloc (.cells #[] 2)) 2 1 (.slice (some ⟨w3.heap.size, 0, none⟩) 0 0) 0 (flat encI []) from Own.of (own_empty _ _ _ _ (Nat.le_refl _)) (by omega))
        have hlat := HG3.out.later HU.out (Nat.le_refl _)
        have hza : (w3.alloc (.cells #[] 2)).heap.size = w3.heap.size + 1 := by simp
        go_wp2_with (at_builtin; refine wp_grow (N := nSS) (w3.alloc (.cells #[] 2)) (w3.heap.size + 1) (by simp) rfl (.tmp 26) (.tmp 28) _ rfl w1.heap.size 27 24 _ Try.underlying24 infoSS rfl (by decide) (by omega) 2 _ _ HG4.out rfl ([], .slice (some ⟨w3.heap.size, 0, none⟩) 0 0) rfl (by intro u hu; simp [nSS, encSS] at hu; subst hu; rfl) _ rfl rfl (by omega) (HU.out.more (by omega) (Nat.le_refl _) (Nat.le_refl _)) hlat.1 hlat.2 ?_; intro v' w' hG5 hb5)
        have HS5 := hid ((HS3.out.ext (Ext.new _ _)).below hb5 (by omega) (by rw [hza]; omega) hgw1)
        have HO5 := hid ((HO3.out.ext (Ext.new _ _)).below hb5 (Nat.le_refl _))
        have hz5 := hb5.size
        go_ret2
        exact ⟨⟨_, _, xs, (ys ++ [(([] : List Int), Value.slice (some ⟨w3.heap.size, 0, none⟩) 0 0)]).map Prod.fst, rfl, hxl, HXI.out, by simp; omega, fun t ht => by
          obtain ⟨p, hp, rfl⟩ := List.mem_map.1 ht
          rcases List.mem_append.1 hp with hp | hp
          · exact HC.out p hp
          · rw [List.mem_singleton] at hp; subst hp; exact Nat.zero_le _, Sl.weak HO5.out.sl (Nat.zero_le _) (by omega) (Nat.le_refl _), GrowN.slSS hG5 rfl (by simp; omega)⟩, HS5.out.out HE0.out (by omega)⟩
end Go.Proofs.Ytopjccbjdcoanaa
/- Small callees of the monitors' law: lists compared, a number looked for, a minute in an alarm. -/
namespace Go.Proofs.Ytopjccbjdcoanaa
set_option linter.unusedVariables false
open Go.RowKit
theorem b10Long (bs : List Int) (lo hi : Nat) (v : Value) (w : World) (hv : Sl lo hi w 1 v bs.length (flat encB bs)) :
    Calls Try.prog 10 #[v] w fun e w' => e = .returned (.bool (decide (1048576 < bs.length))) ∧ w = w' := by
  obtain ⟨_, _, A, c, rfl, hnc, hcm, _⟩ := hv
  unfold maxLen at hcm
  by_cases h : 1048576 < bs.length
  · have h' : (1048576 : Int) < bs.length := by omega
    go_enter Try.func10, Try.ntmps10
    go_wp2
    go_ret
    exact ⟨ret_bool (decide_eq_true h).symm, rfl⟩
  · have h' : ¬ (1048576 : Int) < bs.length := by omega
    go_enter Try.func10, Try.ntmps10
    go_wp2
    go_ret
    exact ⟨rfl, rfl⟩
theorem b10Nums (xs : List Int) (lo hi lo2 hi2 : Nat) (v v2 : Value) (w : World) (hv : Sl lo hi w 1 v xs.length (flat encI xs)) (hv2 : Sl lo2 hi2 w 1 v2 xs.length (flat encI xs)) (hn : xs.length ≤ 1048576) :
    Calls Try.prog 42 #[v, v2] w fun e w' => e = .returned (.bool true) ∧ Ext w w' := by
  obtain ⟨hhi, _, A, c, rfl, hnc, hcm, hcell⟩ := hv
  obtain ⟨hhi2, _, A2, c2, rfl, hnc2, hcm2, hcell2⟩ := hv2
  go_enter Try.func42, Try.ntmps42
  go_wp2
  go_loopw [5] (fun i wr => ∃ k : Nat, k ≤ xs.length ∧ i = .int .i64 k ∧ Hid (Ext w wr)) (fun i _ => xs.length - (intOf i).toNat)
  case atStart => exact ⟨0, Nat.zero_le _, rfl, hid (Below.refl _ _)⟩
  case round =>
    obtain ⟨k, hk, rfl, HE⟩ := hrel
    by_cases hlt : k < xs.length
    · obtain ⟨b, off, rfl, hb1, hb2, hc⟩ := hcell (by omega)
      obtain ⟨b', off', rfl, hb1', hb2', hc'⟩ := hcell2 (by omega)
      have c0 : wr.cell? ⟨b, off + k, none⟩ = some (.int .i64 xs[k]) := (HE.out.cell (p := ⟨b, off + k, none⟩) (by show b < _; omega)).trans (cellsI hc k hlt)
      have c1 : wr.cell? ⟨b', off' + k, none⟩ = some (.int .i64 xs[k]) := (HE.out.cell (p := ⟨b', off' + k, none⟩) (by show b' < _; omega)).trans (cellsI hc' k hlt)
      clear hc hc'
      go_wp2_with fail
      go_quiet (fail)
      go_wp2
      go_roundw
      case rel => exact ⟨k + 1, by omega, by go_num, hid (Ext.tr HE.out (Ext.drewN _ _))⟩
      case measure => simp [intOf]; omega
    · obtain rfl : k = xs.length := by omega
      go_wp2
      go_ret
      exact ⟨rfl, HE.out⟩
theorem b10Has (xs : List Int) (x : Int) (hx : x ∈ xs) (lo hi : Nat) (v : Value) (w : World) (hv : Sl lo hi w 1 v xs.length (flat encI xs)) (hn : xs.length ≤ 1048576) :
    Calls Try.prog 43 #[v, .int .i64 x] w fun e w' => e = .returned (.bool true) ∧ w = w' := by
  obtain ⟨hhi, _, A, c, rfl, hnc, hcm, hcell⟩ := hv
  have HX := hid hx
  clear hx
  go_enter Try.func43, Try.ntmps43
  go_wp2
  go_loop [5] (fun i => ∃ k : Nat, k ≤ xs.length ∧ i = .int .i64 k ∧ Hid (∀ j (h : j < xs.length), j < k → xs[j] ≠ x)) (fun i => xs.length - (intOf i).toNat)
  case atStart => exact ⟨0, Nat.zero_le _, rfl, hid (fun j h h2 => by omega)⟩
  case round =>
    obtain ⟨k, hk, rfl, HN⟩ := hrel
    by_cases hlt : k < xs.length
    · obtain ⟨b, off, rfl, hb1, hb2, hc⟩ := hcell (by omega)
      have c0 := cellsI hc k hlt
      clear hc
      cases he : (xs[k] == x)
      · have hne : xs[k] ≠ x := by simpa using he
        have HN2 := hid (show ∀ j (h : j < xs.length), j < k + 1 → xs[j] ≠ x from fun j h hj => by rcases Nat.lt_succ_iff_lt_or_eq.1 hj with h1 | rfl; exact HN.out j h h1; exact hne)
        clear hne
        go_wp2
        go_round
        case rel => exact ⟨k + 1, by omega, by go_num, HN2⟩
        case measure => simp [intOf]; omega
      · go_wp2
        go_ret
        exact ⟨rfl, rfl⟩
    · exfalso
      obtain ⟨j, hj, e⟩ := List.getElem_of_mem HX.out
      exact HN.out j hj (by omega) e
theorem indexValid (xs : List Int) (t : Int) (lo hi : Nat) (v : Value) (w : World) (hv : Sl lo hi w 1 v xs.length (flat encI xs)) (hn : xs.length ≤ 1048576) :
    Calls Try.prog 86 #[v, .int .i64 t] w fun e w' => e = .returned (.bool (inB t 0 ((xs.length : Int) - 1))) ∧ w = w' := by
  obtain ⟨hhi, _, A, c, rfl, hnc, hcm, hcell⟩ := hv
  go_enter Try.func86, Try.ntmps86
  go_wp2_with (go_at_call 83; refine (within _ _ _ _).mono ?_; rintro e w' ⟨rfl, rfl⟩)
  go_ret
  exact ⟨rfl, rfl⟩
def inP (t : Int) (a : List Int) : Bool := inB t (a.getD 0 0) (a.getD 1 0 - 1)
theorem inP_any (t : Int) (L : List (List Int)) : L.any (inP t) = inAny t L := by
  unfold inAny inP inB
  congr 1
  funext a
  rw [Bool.eq_iff_iff]; simp; omega
theorem inCl (t s e' : Int) (g lo hi : Nat) (A : Option Addr) (c : Nat) (W : World) (hs : Sl lo hi W 1 (.slice A 2 c) 2 (flat encI [s, e'])) (hg : W.cell? ⟨g, 0, none⟩ = some (.int .i64 t)) (hb : 0 ≤ e' ∧ e' ≤ 1000000) :
    Calls Try.prog 87 #[.slice A 2 c, .pointer (some ⟨g, 0, none⟩)] W fun e w' => e = .returned (.bool (inP t [s, e'])) ∧ Ext W w' := by
  obtain ⟨hb0, hb1⟩ := hb
  obtain ⟨hhi, _, A', c', he, hnc, hcm, hcell⟩ := hs
  simp only [Value.slice.injEq, true_and] at he
  obtain ⟨rfl, rfl⟩ := he
  obtain ⟨b, off, rfl, _, hb2, hc⟩ := hcell (by omega)
  have c0 : W.cell? ⟨b, off, none⟩ = some (.int .i64 s) := cellsI (xs := [s, e']) hc 0 (by simp)
  have c1 : W.cell? ⟨b, off + 1, none⟩ = some (.int .i64 e') := cellsI (xs := [s, e']) hc 1 (by simp)
  clear hc hcell
  go_enter Try.func87, Try.ntmps87
  go_wp2_with fail
  go_quiet ((go_at_call 83; exact Calls.quiet_of_same (qs (within _ _ _ _))))
  go_wp2
  go_ret
  exact ⟨rfl, Ext.drewN _ _⟩
theorem AlGood.at_ {x : Sensor} {ns : List Int} : ∀ {last : Int} {L : List (List Int)}, AlGood x ns last L → ∀ k (h : k < L.length), ∃ s e : Nat, L[k] = [(s : Int), (e : Int)] ∧ True ∧ Al1 x ns s e
  | _, [], _, k, h => absurd h (by simp)
  | _, a :: L, ⟨s, e, ha, _, h1, _⟩, 0, _ => ⟨s, e, ha, trivial, h1⟩
  | _, a :: L, ⟨_, _, _, _, _, h4⟩, k + 1, h => AlGood.at_ h4 k (by simpa using h)
set_option maxRecDepth 100000 in
theorem idxInA (als : List (List Int)) (p : List Int → Bool) (c1 : Value) (lo hi : Nat) (v : Value) (w : World) (hv : SlSS lo hi w v als) (hn : als.length ≤ 1048576)
    (hcl : ∀ k (h : k < als.length) (A : Option Addr) (c : Nat) (W : World), Ext w W → Sl lo hi W 1 (.slice A als[k].length c) als[k].length (flat encI als[k]) → Calls Try.prog 87 #[.slice A als[k].length c, c1] W fun e w' => e = .returned (.bool (p als[k])) ∧ Ext W w') :
    Calls Try.prog 89 #[v, .func (.func 87) #[] #[c1]] w fun e w' => idxP (als.any p) e ∧ Ext w w' := by
  obtain ⟨ys, hys, ⟨hhi, _, A, c, rfl, hnc, hcm, hcell⟩, hin⟩ := SlSS.opn hv
  have HY := hid hys
  have HI := hid hin
  have HCL := hid hcl
  clear hys hin hcl hv
  go_enter Try.func89, Try.ntmps89
  go_wp2
  go_loopw [8] (fun i wr => ∃ k : Nat, k ≤ als.length ∧ i = .int .i64 k ∧ Hid (∀ j (h : j < als.length), j < k → p als[j] = false) ∧ Ext w wr) (fun i _ => als.length - (intOf i).toNat)
  case atStart => exact ⟨0, Nat.zero_le _, rfl, hid (fun j h hj => absurd hj (by omega)), Below.refl _ _⟩
  case round =>
    obtain ⟨k, hk, rfl, hall, hE⟩ := hrel
    by_cases hlt : k < als.length
    · obtain ⟨b', off, rfl, hb1, hb2, hc⟩ := hcell (by omega)
      have hbw : b' < w.heap.size := by omega
      obtain ⟨Au, cu, c0, hu⟩ := SS.at_ HY.out HI.out hc hE hbw k hlt
      clear hc
      have HC := hid (HCL.out k hlt Au cu wr hE hu)
      cases hp : p als[k]
      · go_wp2_with (go_at_call 87; refine (cv HC.out (vb hp)).mono ?_; rintro e w2 ⟨rfl, hE2⟩)
        go_roundw
        case rel => exact ⟨k + 1, by omega, by go_num, hid (fun j h hj => by rcases Nat.lt_succ_iff_lt_or_eq.1 hj with h1 | rfl; exact hall.out j h h1; exact hp), Ext.tr hE hE2⟩
        case measure => simp [intOf]; omega
      · go_wp2_with (go_at_call 87; refine (cv HC.out (vb hp)).mono ?_; rintro e w2 ⟨rfl, hE2⟩)
        go_ret
        exact ⟨idxP_yes k (List.any_eq_true.2 ⟨_, List.getElem_mem hlt, hp⟩), Ext.tr hE hE2⟩
    · obtain rfl : k = als.length := by omega
      go_wp2
      go_ret
      exact ⟨idxP_no (any_no fun j h => hall.out j h h), hE⟩
theorem anyInA (als : List (List Int)) (p : List Int → Bool) (c1 : Value) (lo hi : Nat) (v : Value) (w : World) (hv : SlSS lo hi w v als) (hn : als.length ≤ 1048576)
    (hcl : ∀ k (h : k < als.length) (A : Option Addr) (c : Nat) (W : World), Ext w W → Sl lo hi W 1 (.slice A als[k].length c) als[k].length (flat encI als[k]) → Calls Try.prog 87 #[.slice A als[k].length c, c1] W fun e w' => e = .returned (.bool (p als[k])) ∧ Ext W w') :
    Calls Try.prog 51 #[v, .func (.func 87) #[] #[c1]] w fun e w' => e = .returned (.bool (als.any p)) ∧ Ext w w' := by
  have HX := hid (idxInA als p c1 lo hi v w hv hn hcl)
  clear hcl hv
  go_enter Try.func51, Try.ntmps51
  go_wp2_with (go_at_call 89; refine HX.out.mono ?_; rintro e w' ⟨⟨r, rfl, hr⟩, hE⟩)
  all_goals
    go_ret
    refine ⟨ret_bool ?_, hE⟩
    go_tidy
    cases hA : als.any p <;> rw [hA] at hr <;> simp at hr ⊢ <;> omega
set_option maxRecDepth 100000 in
set_option maxHeartbeats 1000000 in
theorem implInAlarm (x : Sensor) (ns : List Int) (t : Nat) (lo hi : Nat) (v : Value) (w : World) (hs : x.id.size ≤ maxLen) (hv : Sl lo hi w 1 v ns.length (flat encI ns)) (hn : ns.length ≤ 1048576) (h1 : sensorB x = true) (h2 : seriesB ns = true) (ht : t < ns.length) :
    Calls Try.prog 40 #[.agg #[.string x.id, .int .i64 x.junction, .int .i64 x.limit, .int .i64 x.delay, .int .i64 x.release], v, .int .i64 t] w fun e w' => e = .returned (.tuple #[.bool (inAny t (alarms x ns)), .int .i64 0]) ∧ Ext w w' := by
  have hX : Ext w ((w.alloc (.cells #[.string x.id, .int .i64 x.junction, .int .i64 x.limit, .int .i64 x.delay, .int .i64 x.release] 40)).alloc (.cells #[.int .i64 t] 2)) := Ext.tr (Ext.new _ _) (Ext.new _ _)
  have HB1 := hid (show Blk ((w.alloc (.cells #[.string x.id, .int .i64 x.junction, .int .i64 x.limit, .int .i64 x.delay, .int .i64 x.release] 40)).alloc (.cells #[.int .i64 t] 2)) w.heap.size 40 #[.string x.id, .int .i64 x.junction, .int .i64 x.limit, .int .i64 x.delay, .int .i64 x.release] from (Blk.new _ _ _).ext (Ext.new _ _))
  have HB2 := hid (show Blk ((w.alloc (.cells #[.string x.id, .int .i64 x.junction, .int .i64 x.limit, .int .i64 x.delay, .int .i64 x.release] 40)).alloc (.cells #[.int .i64 t] 2)) (w.heap.size + 1) 2 #[.int .i64 t] by have := Blk.new (w.alloc (.cells #[.string x.id, .int .i64 x.junction, .int .i64 x.limit, .int .i64 x.delay, .int .i64 x.release] 40)) 2 #[.int .i64 t]; simpa using this)
  have hin : inB t 0 ((ns.length : Int) - 1) = true := by unfold inB; simp; omega
  go_enter Try.func40, Try.ntmps40
  go_wp2_with fail
  generalize (w.alloc _).alloc _ = B at *
  have HX := hid hX
  clear hX
  refine (cv (sensorI x B hs) (vb h1)).mono ?_
  rintro e w1 ⟨rfl, hE1⟩
  have HE1 := hid (Ext.tr HX.out hE1)
  have HB3 := hid (HB1.out.ext hE1)
  have HB4 := hid (HB2.out.ext hE1)
  clear hE1 HB1 HB2
  have t0 : w1.cell? ⟨w.heap.size + 1, 0, none⟩ = some (.int .i64 t) := HB4.out.cell 0
  go_wp2_with fail
  refine (cv (seriesOk ns lo hi _ w1 (hv.ext HE1.out) hn) (vb h2)).mono ?_
  rintro e w2 ⟨rfl, hE2⟩
  have HE2 := hid (Ext.tr HE1.out hE2)
  have HB5 := hid (HB3.out.ext hE2)
  have HB6 := hid (HB4.out.ext hE2)
  clear hE2 HB3 HB4 t0
  have t0 : w2.cell? ⟨w.heap.size + 1, 0, none⟩ = some (.int .i64 t) := HB6.out.cell 0
  have d0 : w2.cell? ⟨w.heap.size, 0, none⟩ = some (.string x.id) := HB5.out.cell 0
  have d1 : w2.cell? ⟨w.heap.size, 1, none⟩ = some (.int .i64 x.junction) := HB5.out.cell 1
  have d2 : w2.cell? ⟨w.heap.size, 2, none⟩ = some (.int .i64 x.limit) := HB5.out.cell 2
  have d3 : w2.cell? ⟨w.heap.size, 3, none⟩ = some (.int .i64 x.delay) := HB5.out.cell 3
  have d4 : w2.cell? ⟨w.heap.size, 4, none⟩ = some (.int .i64 x.release) := HB5.out.cell 4
  have HI := hid (cv (indexValid ns t lo hi _ w2 (hv.ext HE2.out) hn) (vb hin))
  have HA := hid (implAlarms x ns lo hi v w2 h1 (hv.ext HE2.out) h2)
  obtain ⟨hx1, hx2, hx3, hx4, hx5, hx6⟩ := sensorB_le h1
  have HG := hid (alarms_good x ns (by omega) (by omega))
  clear hv hin
  go_wp2_with (first | (go_at_call 86; refine HI.out.mono ?_; rintro e w' ⟨rfl, rfl⟩) | (go_at_call 68; refine HA.out.mono ?_; rintro e w3 ⟨⟨v3, rfl, hO3⟩, hE3⟩))
  have HE3 := hid (Ext.tr HE2.out hE3)
  have HB7 := hid (HB6.out.ext hE3)
  have hg := HB7.out.lt
  have HO := hid hO3
  clear hO3 hE3 t0 d0 d1 d2 d3 d4
  have hbd := alarms_bd x ns (by omega) (by omega)
  have hns := series_len h2
  have HC := hid (anyInA (alarms x ns) (inP t) (.pointer (some ⟨w.heap.size + 1, 0, none⟩)) _ _ v3 w3 HO.out.sl (by omega) (fun k hk A c W hW hu => by
    obtain ⟨s, e', ha, _, ⟨_, he, _⟩⟩ := AlGood.at_ HG.out k hk
    rw [ha] at hu ⊢
    exact inCl t s e' (w.heap.size + 1) _ _ A c W hu ((HB7.out.ext hW).cell 0) (by omega)))
  go_wp2_with (go_at_call 51; refine (cv HC.out (vb (inP_any t (alarms x ns)))).mono ?_; rintro e w4 ⟨rfl, hE4⟩)
  go_ret2
  exact ⟨rfl, Ext.tr HE3.out hE4⟩
end Go.Proofs.Ytopjccbjdcoanaa
/- An argument that is a slice of bytes, read as a list of numbers. -/
namespace Go.Proofs.Ytopjccbjdcoanaa
set_option linter.unusedVariables false
open Go.RowKit Go.ChangeShapes Go.WideShapes Go.Deep
theorem openBytes {H : Type} {ec : TypeId × Value → H} {W : World} {A : Option Addr} {l c : Nat} {d : DataW H} {p : List MemPlace} (h : DataW.Trod ec Try.prog W 0 (fun _ => true) true 22 (.slice A l c) d p) :
    ∃ xs : List Int, xs.length = l ∧ Sl 0 W.heap.size W 1 (.slice A l c) xs.length (flat encB xs) ∧ ∀ x ∈ xs, 0 ≤ x ∧ x ≤ 255 :=
  open_flat encB_len (by omega) (ok := fun x => 0 ≤ x ∧ x ≤ 255) Try.underlying22 (by kernel_rfl) (fun n cs y hl ht => by
    match cs, hl with
    | [c0], _ =>
      obtain ⟨x, q, _, hw⟩ := DataW.trod_int Try.underlying5 ht
      simp only [List.cons.injEq, and_true] at q; subst q
      refine ⟨x, rfl, ?_⟩
      simp only [Lit.wf, IntKind.min, IntKind.max, IntKind.signed, IntKind.bits, Bool.and_eq_true] at hw
      simp at hw
      omega) h
end Go.Proofs.Ytopjccbjdcoanaa
