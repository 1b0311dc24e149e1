/- Contracts of the lines of versions: l27Above, lineOf, l00Has, Contains. -/
import Derived.Test.YthffakaddohlnaaVHist
import Derived.Test.YthffakaddohlnaaAnyL
import Derived.Test.YthffakaddohlnaaWithin
import Derived.Test.YthffakaddohlnaaNums
namespace Go.Proofs.Ythffakaddohlnaa
set_option linter.unusedVariables false
open Go.RowKit
def noV0 : Version := ⟨0, 0, ⟨#[]⟩, []⟩
def parAt (xs : List Version) (n : Nat) : Nat := (xs.getD (n - 1) noV0).parent.toNat
/-- a version and all from which it comes -/
def line (xs : List Version) : Nat → Nat → List Int
  | 0, _ => []
  | f + 1, n => if n = 0 then [] else (n : Int) :: line xs f (parAt xs n)
theorem line_zero (xs : List Version) (f : Nat) : line xs f 0 = [] := by cases f <;> simp [line]
theorem line_succ (xs : List Version) (f m : Nat) : line xs (f + 1) (m + 1) = ((m : Int) + 1) :: line xs f (parAt xs (m + 1)) := by
  rw [line, if_neg (by omega)]; rfl
theorem par_at {xs : List Version} (h : histB xs = true) (m : Nat) (hm : m < xs.length) : xs[m].parent = (parAt xs (m + 1) : Int) ∧ parAt xs (m + 1) ≤ m := by
  obtain ⟨_, h1, h2, _⟩ := hist_at h m hm
  have e : parAt xs (m + 1) = xs[m].parent.toNat := by
    unfold parAt; rw [Nat.add_sub_cancel, List.getD_eq_getElem?_getD, List.getElem?_eq_getElem hm]; rfl
  rw [e]; omega
theorem line_len (xs : List Version) : ∀ f n, (line xs f n).length ≤ f
  | 0, n => by simp [line]
  | f + 1, n => by
    rw [line]; split
    · simp
    · simp; exact line_len xs f _
/-- all the line of a number but itself -/
def above (xs : List Version) (n : Nat) : List Int := (line xs n n).tail
theorem above_eq (xs : List Version) (m : Nat) : line xs (m + 1) (m + 1) = ((m : Int) + 1) :: line xs m (parAt xs (m + 1)) := line_succ xs m m
theorem above_succ (xs : List Version) (m : Nat) : above xs (m + 1) = line xs m (parAt xs (m + 1)) := by unfold above; rw [above_eq]; rfl
theorem above_cons (xs : List Version) (m : Nat) : line xs (m + 1) (m + 1) = ((m + 1 : Nat) : Int) :: above xs (m + 1) := by rw [above_succ, above_eq]; simp
set_option maxRecDepth 100000 in
theorem lineOf (xs : List Version) (n : Nat) (lo hi : Nat) (v : Value) (w : World) (hv : SlV lo hi w v xs) (hh : histB xs = true) (hn : n ≤ xs.length) :
    Calls Try.prog 71 #[v, .int .i64 n] w fun e w' => (∃ v', e = .returned v' ∧ Own w.heap.size w'.heap.size w' 2 1 v' (line xs n n).length (flat encI (line xs n n))) ∧ Ext w w' := by
  have h32 := hist_len hh
  have HH := hid hh
  obtain ⟨ps, hps, ⟨hhi, _, A, c, rfl, hnc, hcm, hcell⟩, hin⟩ := hv.opn
  have HP := hid hps
  have hln := line_len xs n n
  clear hps hv hh
  go_enter Try.func71, Try.ntmps71
  go_wp2
  go_loopw [1, 5] (fun i u wr => ∃ (m f : Nat) (acc : List Int), m ≤ f ∧ m ≤ xs.length ∧ i = .int .i64 m ∧ Hid (acc ++ line xs f m = line xs n n) ∧ wr.ownsRow w.heap.size 2 1 u acc.length (flat encI acc) ∧ Ext w wr) (fun i _ _ => (intOf i).toNat)
  case atStart => exact ⟨n, n, [], by omega, by omega, rfl, hid rfl, World.ownsRow_nil _ _ _ _, Below.refl _ _⟩
  case round =>
    obtain ⟨m, f, acc, hmf, hmn, rfl, HL, hown, hE⟩ := hrel
    have hal : acc.length ≤ 32 := by
      have := congrArg List.length HL.out
      rw [List.length_append] at this
      omega
    cases m with
    | zero =>
      have HQ := hid (show acc = line xs n n by have := HL.out; rw [line_zero] at this; simpa using this)
      go_wp2
      go_ret
      exact ⟨⟨_, rfl, by rw [← HQ.out]; exact Own.of hown (by omega)⟩, hE⟩
    | succ m =>
      cases f with
      | zero => omega
      | succ f =>
      have hlt : m < xs.length := by omega
      obtain ⟨b, off, rfl, hb1, hb2, hc⟩ := hcell (by omega)
      have hbw : b < w.heap.size := by omega
      obtain ⟨hp1, hp2⟩ := par_at HH.out m hlt
      have hz := hE.size
      have hm1 : (0 : Int) < (m : Int) + 1 := by omega
      have ha := hid (fun W (hW : Ext w W) => Version.at_ HP.out hin hc hW hbw m hlt)
      clear hc hcell
      rw [show ((m + 1 : Nat) : Int) = (m : Int) + 1 by omega]
      have HP1 := hid hp1
      clear hp1
      go_wp2_with (at_builtin; refine wp_append1 wr rfl (.tmp 14) (.tmp 16) _ rfl w.heap.size 2 1 8 _ Try.underlying47 infoInt rfl (by omega) (by omega) _ _ _ hown rfl [.int .i64 ((m : Int) + 1)] rfl (by simp [Value.oneCell']) _ rfl rfl (by omega) hz ?_; intro v' w' ho' hb'; have hE2 := hE.trans hb'; obtain ⟨Au, cu, _, c1, _, _, _⟩ := ha.out w' hE2; rw [HP1.out] at c1)
      go_roundw
      case rel => exact ⟨parAt xs (m + 1), f, acc ++ [(m : Int) + 1], by omega, by omega, rfl, hid (by rw [← HL.out, line_succ]; simp), by rw [flat_snoc, List.length_append]; exact ho', hE2⟩
      case measure => simp [intOf]; omega
set_option maxRecDepth 100000 in
theorem l27Above (xs : List Version) (n : Nat) (lo hi : Nat) (v : Value) (w : World) (hv : SlV lo hi w v xs) (hh : histB xs = true) (h1 : 1 ≤ n) (hn : n ≤ xs.length) :
    Calls Try.prog 70 #[v, .int .i64 n] w fun e w' => (∃ v', e = .returned v' ∧ Own w.heap.size w'.heap.size w' 2 1 v' (above xs n).length (flat encI (above xs n))) ∧ Ext w w' := by
  have h32 := hist_len hh
  have HH := hid hh
  obtain ⟨ps, hps, ⟨hhi, _, A, c, rfl, hnc, hcm, hcell⟩, hin⟩ := hv.opn
  have HP := hid hps
  have hln : (above xs n).length ≤ n := by have := line_len xs n n; unfold above; simp; omega
  clear hps hv hh
  go_enter Try.func70, Try.ntmps70
  go_wp2
  go_loopw [1, 5] (fun i u wr => ∃ (m : Nat) (acc : List Int), m ≤ xs.length ∧ i = .int .i64 m ∧ Hid (m = 0 ∧ acc = above xs n ∨ ∃ m' f, m = m' + 1 ∧ m' ≤ f ∧ acc ++ line xs f (parAt xs m) = above xs n) ∧ wr.ownsRow w.heap.size 2 1 u acc.length (flat encI acc) ∧ Ext w wr) (fun i _ _ => (intOf i).toNat)
  case atStart => exact ⟨n, [], by omega, rfl, hid (.inr ⟨n - 1, n - 1, by omega, by omega, by obtain ⟨n', rfl⟩ : ∃ n', n = n' + 1 := ⟨n - 1, by omega⟩; rw [above_succ]; rfl⟩), own_empty _ _ _ _ (Nat.le_refl _), Ext.new _ _⟩
  case round =>
    obtain ⟨m, acc, hmn, rfl, HL, hown, hE⟩ := hrel
    cases m with
    | zero =>
      have HQ := hid (show acc = above xs n by rcases HL.out with ⟨_, h⟩ | ⟨m', f, h, _⟩; exact h; omega)
      have hal : acc.length ≤ 32 := by rw [HQ.out]; omega
      go_wp2
      go_ret
      exact ⟨⟨_, rfl, by rw [← HQ.out]; exact Own.of hown (by omega)⟩, hE⟩
    | succ m =>
      obtain ⟨f, hmf, HS⟩ : ∃ f, m ≤ f ∧ Hid (acc ++ line xs f (parAt xs (m + 1)) = above xs n) := by
        rcases HL.out with ⟨h, _⟩ | ⟨m', f, h, h2, h3⟩
        · omega
        · exact ⟨f, by omega, hid h3⟩
      have hal : acc.length ≤ 32 := by
        have := congrArg List.length HS.out
        rw [List.length_append] at this
        omega
      have hlt : m < xs.length := by omega
      obtain ⟨b, off, rfl, hb1, hb2, hc⟩ := hcell (by omega)
      have hbw : b < w.heap.size := by omega
      obtain ⟨hp1, hp2⟩ := par_at HH.out m hlt
      have hz := hE.size
      have hm1 : ((m : Int) + 1 != 0) = true := by rw [bne_iff_ne]; omega
      obtain ⟨Au, cu, _, c1, _, _, _⟩ := Version.at_ HP.out hin hc hE hbw m hlt
      rw [hp1] at c1
      clear hc hcell hp1 HL
      rw [show ((m + 1 : Nat) : Int) = (m : Int) + 1 by omega]
      cases hp : parAt xs (m + 1) with
      | zero =>
        have HQ := hid (show acc = above xs n by have := HS.out; rw [hp, line_zero] at this; simpa using this)
        rw [hp] at c1
        clear hp hp2
        go_wp2
        go_roundw
        case rel => exact ⟨0, acc, by omega, rfl, hid (.inl ⟨rfl, HQ.out⟩), hown, hE⟩
        case measure => simp [intOf]
      | succ p =>
        obtain ⟨f', hff⟩ : ∃ f', f = f' + 1 := ⟨f - 1, by omega⟩
        have HQ := hid (show acc ++ [(p : Int) + 1] ++ line xs f' (parAt xs (p + 1)) = above xs n by have := HS.out; rw [hp, hff, line_succ] at this; rw [← this]; simp)
        rw [hp] at c1 hp2
        have hpf : p ≤ f' := by omega
        have hp0 : ((p : Int) + 1 != 0) = true := by rw [bne_iff_ne]; omega
        rw [show ((p + 1 : Nat) : Int) = (p : Int) + 1 by omega] at c1
        clear hp hff
        go_wp2_with (at_builtin; refine wp_append1 wr rfl (.tmp 17) (.tmp 19) _ rfl w.heap.size 2 1 8 _ Try.underlying47 infoInt rfl (by omega) (by omega) _ _ _ hown rfl [.int .i64 ((p : Int) + 1)] rfl (by simp [Value.oneCell']) _ rfl rfl (by omega) hz ?_; intro v' w' ho' hb')
        go_roundw
        case rel => exact ⟨p + 1, acc ++ [(p : Int) + 1], by omega, by go_num, hid (.inr ⟨p, f', rfl, hpf, HQ.out⟩), by rw [flat_snoc, List.length_append]; exact ho', hE.trans hb'⟩
        case measure => simp [intOf]; omega
/-! ### is a number in a list -/
def hasI (ns : List Int) (n : Int) : Bool := ns.any fun x => decide (x = n)
theorem has_no {ns : List Int} {n : Int} (h : ∀ j (hj : j < ns.length), ¬ ns[j] = n) : hasI ns n = false := any_no (fun j hj => by simpa using h j hj)
theorem has_yes {ns : List Int} {n : Int} (k : Nat) (hk : k < ns.length) (h : ns[k] = n) : hasI ns n = true := List.any_eq_true.2 ⟨_, List.getElem_mem hk, by simpa using h⟩
theorem l00Has (ns : List Int) (n : Int) (lo hi : Nat) (v : Value) (w : World) (hv : Sl lo hi w 1 v ns.length (flat encI ns)) (hn : ns.length ≤ 1048576) :
    Calls Try.prog 80 #[v, .int .i64 n] w fun e w' => e = .returned (.bool (hasI ns n)) ∧ w = w' := by
  obtain ⟨hhi, _, A, c, rfl, hnc, hcm, hcell⟩ := hv
  go_enter Try.func80, Try.ntmps80
  go_wp2
  go_loop [5] (fun i => ∃ k : Nat, k ≤ ns.length ∧ i = .int .i64 k ∧ Hid (∀ j (h : j < ns.length), j < k → ¬ ns[j] = n)) (fun i => ns.length - (intOf i).toNat)
  case atStart => exact ⟨0, Nat.zero_le _, rfl, hid (fun j h hj => absurd hj (by omega))⟩
  case round =>
    obtain ⟨k, hk, rfl, hall⟩ := hrel
    by_cases hlt : k < ns.length
    · obtain ⟨b', off, rfl, hb1, hb2, hc⟩ := hcell (by omega)
      have c0 := cellsI hc k hlt
      clear hc
      by_cases hp : ns[k] = n
      · have HY := hid (has_yes k hlt hp)
        rw [hp] at c0
        clear hp
        go_wp2
        go_ret
        exact ⟨ret_bool HY.out.symm, rfl⟩
      · have hb : (ns[k] == n) = false := by simpa using hp
        go_wp2
        go_round
        case rel => exact ⟨k + 1, by omega, by go_num, hid (fun j h hj => by rcases Nat.lt_succ_iff_lt_or_eq.1 hj with h1 | rfl; exact hall.out j h h1; exact hp)⟩
        case measure => simp [intOf]; omega
    · obtain rfl : k = ns.length := by omega
      go_wp2
      go_ret
      exact ⟨ret_bool (has_no fun j h => hall.out j h h).symm, rfl⟩
theorem idxHas (ns : List Int) (n : Int) (lo hi : Nat) (v : Value) (w : World) (hv : Sl lo hi w 1 v ns.length (flat encI ns)) (hn : ns.length ≤ 1048576) :
    Calls Try.prog 91 #[v, .int .i64 n] w fun e w' => idxP (hasI ns n) e ∧ w = w' := by
  obtain ⟨hhi, _, A, c, rfl, hnc, hcm, hcell⟩ := hv
  go_enter Try.func91, Try.ntmps91
  go_wp2
  go_loop [8] (fun i => ∃ k : Nat, k ≤ ns.length ∧ i = .int .i64 k ∧ Hid (∀ j (h : j < ns.length), j < k → ¬ ns[j] = n)) (fun i => ns.length - (intOf i).toNat)
  case atStart => exact ⟨0, Nat.zero_le _, rfl, hid (fun j h hj => absurd hj (by omega))⟩
  case round =>
    obtain ⟨k, hk, rfl, hall⟩ := hrel
    by_cases hlt : k < ns.length
    · obtain ⟨b', off, rfl, hb1, hb2, hc⟩ := hcell (by omega)
      have c0 := cellsI hc k hlt
      clear hc
      by_cases hp : ns[k] = n
      · have HY := hid (has_yes k hlt hp)
        rw [hp] at c0
        clear hp
        go_wp2
        go_ret
        exact ⟨idxP_yes k HY.out, rfl⟩
      · have hb : (n == ns[k]) = false := by rw [beq_eq_false_iff_ne]; exact fun h => hp h.symm
        have hb2 : ¬ n = ns[k] := fun h => hp h.symm
        go_wp2
        go_round
        case rel => exact ⟨k + 1, by omega, by go_num, hid (fun j h hj => by rcases Nat.lt_succ_iff_lt_or_eq.1 hj with h1 | rfl; exact hall.out j h h1; exact hp)⟩
        case measure => simp [intOf]; omega
    · obtain rfl : k = ns.length := by omega
      go_wp2
      go_ret
      exact ⟨idxP_no (has_no fun j h => hall.out j h h), rfl⟩
theorem contains (ns : List Int) (n : Int) (lo hi : Nat) (v : Value) (w : World) (hv : Sl lo hi w 1 v ns.length (flat encI ns)) (hn : ns.length ≤ 1048576) :
    Calls Try.prog 82 #[v, .int .i64 n] w fun e w' => e = .returned (.bool (hasI ns n)) ∧ w = w' := by
  go_enter Try.func82, Try.ntmps82
  go_wp2_with (go_at_call 91; refine (idxHas ns n lo hi v _ hv hn).mono ?_; rintro e w' ⟨⟨r, rfl, hr⟩, rfl⟩)
  all_goals
    go_ret
    refine ⟨ret_bool ?_, rfl⟩
    go_tidy
    cases hA : hasI ns n <;> rw [hA] at hr <;> simp at hr ⊢ <;> omega
/-! ### the error -/
def numOk (xs : List Version) (n : Int) : Bool := inB n 1 xs.length
theorem l27Number (xs : List Version) (n : Int) (lo hi : Nat) (v : Value) (w : World) (hv : SlV lo hi w v xs) (hn : xs.length ≤ 1048576) :
    Calls Try.prog 64 #[v, .int .i64 n] w fun e w' => e = .returned (.bool (numOk xs n)) ∧ w = w' := by
  obtain ⟨ps, hps, ⟨hhi, _, A, c, rfl, hnc, hcm, hcell⟩, hin⟩ := hv.opn
  go_enter Try.func64, Try.ntmps64
  go_wp2_with (go_at_call 78; refine (l00In _ _ _ _).mono ?_; rintro e w' ⟨rfl, rfl⟩)
  go_ret
  exact ⟨rfl, rfl⟩
/-- the error of a history and of numbers -/
def verCode (xs : List Version) (ns : List Int) : Int := if histB xs then (if allIn ns 1 xs.length then 0 else 3) else 1
theorem versionsCode (xs : List Version) (ns : List Int) (lo hi lo2 hi2 : Nat) (v v2 : Value) (w : World) (hv : SlV lo hi w v xs) (hs : ∀ x ∈ xs, okV x) (hn : totN nV xs + xs.length ≤ 1048576) (hv2 : Sl lo2 hi2 w 1 v2 ns.length (flat encI ns)) (hn2 : ns.length ≤ 1048576) :
    Calls Try.prog 66 #[v, v2] w fun e w' => e = .returned (.int .i64 (verCode xs ns)) ∧ Ext w w' := by
  have hv0 := hv
  obtain ⟨ps, hps, ⟨hhi, _, A, c, rfl, hnc, hcm, hcell⟩, hin⟩ := hv0.opn
  clear hcell hin hps
  cases h1 : histB xs
  · have HC := hid (show verCode xs ns = 1 by unfold verCode; rw [h1]; rfl)
    go_enter Try.func66, Try.ntmps66
    go_wp2_with (go_at_call 25; refine (cv (implValidHistory xs lo hi _ _ hv hs hn) (vb h1)).mono ?_; rintro e w1 ⟨rfl, hE⟩)
    go_ret
    exact ⟨ret_int HC.out.symm, hE⟩
  cases h2 : allIn ns 1 xs.length
  · have HC := hid (show verCode xs ns = 3 by unfold verCode; rw [h1, h2]; rfl)
    go_enter Try.func66, Try.ntmps66
    go_wp2_with (first | (go_at_call 25; refine (cv (implValidHistory xs lo hi _ _ hv hs hn) (vb h1)).mono ?_; rintro e w1 ⟨rfl, hE⟩) | (go_at_call 81; refine (cv (allWithin ns _ _ lo2 hi2 v2 _ (hv2.ext hE) hn2) (vb h2)).mono ?_; rintro e w2 ⟨rfl, hE2⟩))
    go_ret
    exact ⟨ret_int HC.out.symm, Ext.tr hE hE2⟩
  · have HC := hid (show verCode xs ns = 0 by unfold verCode; rw [h1, h2]; rfl)
    go_enter Try.func66, Try.ntmps66
    go_wp2_with (first | (go_at_call 25; refine (cv (implValidHistory xs lo hi _ _ hv hs hn) (vb h1)).mono ?_; rintro e w1 ⟨rfl, hE⟩) | (go_at_call 81; refine (cv (allWithin ns _ _ lo2 hi2 v2 _ (hv2.ext hE) hn2) (vb h2)).mono ?_; rintro e w2 ⟨rfl, hE2⟩))
    go_ret
    exact ⟨ret_int HC.out.symm, Ext.tr hE hE2⟩
end Go.Proofs.Ythffakaddohlnaa
