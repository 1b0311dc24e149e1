/- The plan of drills: plain laws, no program in sight. -/
import Derived.Test.YtibmcailjodpkaaG28
import Derived.Test.YtibmcailjodpkaaN28
namespace Go.Proofs.Ytibmcailjodpkaa
set_option linter.unusedVariables false
/-- the first day from d on that is not taken, looked for n times -/
def freeF (T : Int → Bool) (d : Int) : Nat → Int
  | 0 => d
  | n + 1 => if T d then freeF T (d + 1) n else d
theorem freeF_stop {T : Int → Bool} {d : Int} (h : T d = false) (n : Nat) : freeF T d n = d := by
  cases n
  · rfl
  · rw [freeF, h]; rfl
theorem freeF_go {T : Int → Bool} {d : Int} (h : T d = true) (n : Nat) : freeF T d (n + 1) = freeF T (d + 1) n := by rw [freeF, h]; rfl
def takenB (xs : List Drill) (ps : List Int) (d : Int) : Bool := hasI ps d || hasI (xs.map Drill.day) d
def startTo (xs : List Drill) (crew : ByteArray) (from_ iv : Int) : Nat → Int
  | 0 => from_
  | k + 1 => if h : k < xs.length then (if xs[k].crew.toList = crew.toList then maxI (startTo xs crew from_ iv k) (xs[k].day + iv) else startTo xs crew from_ iv k) else startTo xs crew from_ iv k
theorem startTo_yes {xs : List Drill} {crew : ByteArray} {f iv : Int} {k : Nat} (h : k < xs.length) (e : xs[k].crew.toList = crew.toList) : startTo xs crew f iv (k + 1) = maxI (startTo xs crew f iv k) (xs[k].day + iv) := by rw [startTo, dif_pos h, if_pos e]
theorem startTo_no {xs : List Drill} {crew : ByteArray} {f iv : Int} {k : Nat} (h : k < xs.length) (e : ¬ xs[k].crew.toList = crew.toList) : startTo xs crew f iv (k + 1) = startTo xs crew f iv k := by rw [startTo, dif_pos h, if_neg e]
theorem drill_day {xs : List Drill} (h : drillsB xs = true) (k : Nat) (hk : k < xs.length) : 0 ≤ xs[k].day ∧ xs[k].day ≤ 100000 := by
  unfold drillsB at h; rw [Bool.and_eq_true] at h
  have := allOk_p h.2 k hk
  unfold drillB inB at this; simp only [Bool.and_eq_true, decide_eq_true_eq] at this; omega
theorem drill_mono {xs : List Drill} (h : drillsB xs = true) (i k : Nat) (hik : i ≤ k) (hk : k < xs.length) : (xs[i]'(by omega)).day ≤ xs[k].day := by
  induction k with
  | zero => obtain rfl : i = 0 := by omega
            exact Int.le_refl _
  | succ k ih =>
    by_cases e : i = k + 1
    · subst e; exact Int.le_refl _
    · have h1 := ih (by omega) (by omega)
      unfold drillsB at h; rw [Bool.and_eq_true] at h
      have h2 := allOk_l h.2 (k + 1) hk (by omega)
      unfold drillLt at h2
      simp only [Nat.add_sub_cancel, Bool.or_eq_true, decide_eq_true_eq, Bool.and_eq_true] at h2
      omega
theorem startTo_bd {xs : List Drill} {crew : ByteArray} {f iv : Int} (h : drillsB xs = true) (hf : 0 ≤ f ∧ f ≤ 100000) (hi : 1 ≤ iv ∧ iv ≤ 1000) (k : Nat) (hk : k ≤ xs.length) : 0 ≤ startTo xs crew f iv k ∧ startTo xs crew f iv k ≤ 101000 := by
  induction k with
  | zero => unfold startTo; omega
  | succ k ih =>
    have := ih (by omega)
    have hd := drill_day h k (by omega)
    by_cases e : xs[k].crew.toList = crew.toList
    · rw [startTo_yes (by omega) e]; unfold maxI; split <;> omega
    · rw [startTo_no (by omega) e]; exact this
theorem max_max (f a b : Int) (h : a ≤ b) : maxI (maxI f a) b = maxI f b := by
  unfold maxI
  by_cases h1 : a > f <;> by_cases h2 : b > f <;> simp_all <;> omega
/-- the start as the last own drill tells it -/
theorem startTo_last {xs : List Drill} {crew : ByteArray} {f iv : Int} (h : drillsB xs = true) (k : Nat) (hk : k ≤ xs.length) :
    startTo xs crew f iv k = (match (ixs (ofP xs crew) k).getLast? with | none => f | some j => maxI f (((xs[j.toNat]?).map Drill.day).getD 0 + iv)) := by
  induction k with
  | zero => rfl
  | succ k ih =>
    have hkl : k < xs.length := by omega
    have htst : ofP xs crew k = (xs[k].crew.toList == crew.toList) := by unfold ofP; exact tst_at xs (fun x => x.crew.toList == crew.toList) k hkl
    by_cases e : xs[k].crew.toList = crew.toList
    · rw [startTo_yes hkl e, ixs_yes _ _ (by rw [htst]; simpa using e), List.getLast?_append, ih (by omega)]
      simp only [List.getLast?_singleton, Option.some_or, Int.toNat_natCast, List.getElem?_eq_getElem hkl, Option.map_some, Option.getD_some]
      cases hl : (ixs (ofP xs crew) k).getLast? with
      | none => rfl
      | some j =>
        have hm := List.mem_of_getLast? hl
        obtain ⟨q, hq, rfl⟩ := List.getElem_of_mem hm
        obtain ⟨i, hi, he⟩ := ixs_at _ _ q hq
        rw [he]
        simp only [Int.toNat_natCast]
        rw [List.getElem?_eq_getElem (by omega : i < xs.length)]
        have := drill_mono h i k (by omega) hkl
        simp only [Option.map_some, Option.getD_some]
        exact max_max _ _ _ (by omega)
    · rw [startTo_no hkl e, ixs_no _ _ (by rw [htst]; simpa using e)]; exact ih (by omega)
def dayOf (xs : List Drill) (ps : List Int) (crew : ByteArray) (f iv : Int) : Int := freeF (takenB xs ps) (startTo xs crew f iv xs.length) 200000
def planTo (xs : List Drill) (cs : List ByteArray) (f iv : Int) : Nat → Option (List Int)
  | 0 => some []
  | k + 1 => match planTo xs cs f iv k with
    | none => none
    | some ps => if h : k < cs.length then (if dayOf xs ps cs[k] f iv ≤ 100000 then some (ps ++ [dayOf xs ps cs[k] f iv]) else none) else some ps
theorem planTo_ok {xs : List Drill} {cs : List ByteArray} {f iv : Int} {k : Nat} {ps : List Int} (h : k < cs.length) (hp : planTo xs cs f iv k = some ps) (hd : dayOf xs ps cs[k] f iv ≤ 100000) : planTo xs cs f iv (k + 1) = some (ps ++ [dayOf xs ps cs[k] f iv]) := by
  rw [planTo, hp]; simp [h, hd]
theorem planTo_no {xs : List Drill} {cs : List ByteArray} {f iv : Int} {k : Nat} {ps : List Int} (h : k < cs.length) (hp : planTo xs cs f iv k = some ps) (hd : ¬ dayOf xs ps cs[k] f iv ≤ 100000) : planTo xs cs f iv (k + 1) = none := by
  rw [planTo, hp]; simp [h, hd]
theorem planTo_none {xs : List Drill} {cs : List ByteArray} {f iv : Int} {k : Nat} (hp : planTo xs cs f iv k = none) (n : Nat) (hn : k ≤ n) : planTo xs cs f iv n = none := by
  induction n with
  | zero => obtain rfl : k = 0 := by omega
            exact hp
  | succ n ih =>
    by_cases e : k = n + 1
    · subst e; exact hp
    · rw [planTo, ih (by omega)]
def argsB (cs : List ByteArray) (f iv : Int) : Bool := namesB cs && inB f 0 100000 && inB iv 1 1000
def planR (xs : List Drill) (cs : List ByteArray) (f iv : Int) : List Int × Int :=
  if drillsB xs then (if argsB cs f iv then (match planTo xs cs f iv cs.length with | none => ([], 6) | some ps => (ps, 0)) else ([], 2)) else ([], 1)
theorem planR_no {xs : List Drill} (cs : List ByteArray) (f iv : Int) (h : drillsB xs = false) : planR xs cs f iv = ([], 1) := by unfold planR; rw [h]; rfl
theorem planR_range {xs : List Drill} {cs : List ByteArray} {f iv : Int} (h : drillsB xs = true) (h2 : argsB cs f iv = false) : planR xs cs f iv = ([], 2) := by unfold planR; rw [h, h2]; rfl
theorem planR_state {xs : List Drill} {cs : List ByteArray} {f iv : Int} (h : drillsB xs = true) (h2 : argsB cs f iv = true) (k : Nat) (hk : k ≤ cs.length) (hp : planTo xs cs f iv k = none) : planR xs cs f iv = ([], 6) := by unfold planR; rw [h, h2, planTo_none hp cs.length hk]; rfl
theorem planR_ok {xs : List Drill} {cs : List ByteArray} {f iv : Int} {ps : List Int} (h : drillsB xs = true) (h2 : argsB cs f iv = true) (hp : planTo xs cs f iv cs.length = some ps) : planR xs cs f iv = (ps, 0) := by unfold planR; rw [h, h2, hp]; rfl
end Go.Proofs.Ytibmcailjodpkaa
