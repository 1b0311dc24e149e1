/- Reading a sensor's text: the plain law. No walk in this text. -/
import Derived.Test.YtopjccbjdcoanaaDoorTxtSensor
import Derived.Lib.Split
import Derived.Lib.IndexBytes
import Derived.Lib.ParseIntBTie
namespace Go.Proofs.YtopjccbjdcoanaaDoor
set_option linter.unusedVariables false
open Go.RowKit
/-! ### a text cut at a byte -/
def splitL (c : UInt8) : List UInt8 → List (List UInt8)
  | [] => [[]]
  | x :: xs => if x = c then [] :: splitL c xs else match splitL c xs with | [] => [[x]] | y :: ys => (x :: y) :: ys
theorem splitL_ne (c : UInt8) (l : List UInt8) : splitL c l ≠ [] := by
  cases l with
  | nil => simp [splitL]
  | cons x xs =>
    unfold splitL
    split
    · simp
    · split <;> simp
theorem splitL_none (c : UInt8) : ∀ a : List UInt8, c ∉ a → splitL c a = [a]
  | [], _ => rfl
  | x :: xs, h => by
    have h1 : ¬ x = c := fun e => h (by rw [e]; simp)
    have h2 : c ∉ xs := fun e => h (by simp [e])
    rw [splitL, if_neg h1, splitL_none c xs h2]
theorem splitL_app (c : UInt8) (b : List UInt8) : ∀ a : List UInt8, c ∉ a → splitL c (a ++ c :: b) = a :: splitL c b
  | [], _ => by rw [List.nil_append, splitL, if_pos rfl]
  | x :: xs, h => by
    have h1 : ¬ x = c := fun e => h (by rw [e]; simp)
    have h2 : c ∉ xs := fun e => h (by simp [e])
    rw [List.cons_append, splitL, if_neg h1, splitL_app c b xs h2]
theorem join_cons2 (x y : List UInt8) (zs : List (List UInt8)) (sep : List UInt8) : Lib.join (x :: y :: zs) sep = x ++ sep ++ Lib.join (y :: zs) sep := by
  simp [Lib.join, List.intercalate]
theorem join_ne (x : List UInt8) {zs : List (List UInt8)} (h : zs ≠ []) (sep : List UInt8) : Lib.join (x :: zs) sep = x ++ sep ++ Lib.join zs sep := by
  cases zs with
  | nil => exact absurd rfl h
  | cons y ys => exact join_cons2 x y ys sep
theorem splitL_join (c : UInt8) : ∀ l : List UInt8, Lib.join (splitL c l) [c] = l
  | [] => by rw [splitL, Lib.join_one]
  | x :: xs => by
    have ih := splitL_join c xs
    have hne := splitL_ne c xs
    unfold splitL
    split
    · rename_i h; rw [join_ne _ hne, ih, h]; rfl
    · cases hs : splitL c xs with
      | nil => exact absurd hs hne
      | cons y ys =>
        rw [hs] at ih
        cases ys with
        | nil => rw [Lib.join_one] at ih ⊢; rw [ih]
        | cons z zs => rw [join_cons2] at ih ⊢; rw [← ih]; simp
theorem splitL_of (c : UInt8) : ∀ ps : List (List UInt8), ps ≠ [] → (∀ p ∈ ps, c ∉ p) → splitL c (Lib.join ps [c]) = ps
  | [], h, _ => absurd rfl h
  | [p], _, h => by rw [Lib.join_one]; exact splitL_none c p (h p (by simp))
  | p :: q :: ps, _, h => by
    rw [join_cons2, List.append_assoc]
    show splitL c (p ++ c :: Lib.join (q :: ps) [c]) = _
    rw [splitL_app c _ p (h p (by simp)), splitL_of c (q :: ps) (by simp) (fun x hx => h x (by simp [hx]))]
/-! ### numbers -/
def digL (b : UInt8) : Bool := digitB b.toNat
def valN (l : List UInt8) : Nat := l.foldl (fun n b => 10 * n + (b.toNat - 48)) 0
theorem valN_snoc (l : List UInt8) (b : UInt8) : valN (l ++ [b]) = 10 * valN l + (b.toNat - 48) := by unfold valN; rw [List.foldl_append]; rfl
theorem digL_bd {b : UInt8} (h : digL b = true) : 48 ≤ b.toNat ∧ b.toNat ≤ 57 := by
  unfold digL digitB at h; simp only [Bool.and_eq_true, decide_eq_true_eq] at h; omega
theorem ofNat_dig {b : UInt8} (h : digL b = true) : UInt8.ofNat (48 + (b.toNat - 48)) = b := by
  have := digL_bd h
  rw [show 48 + (b.toNat - 48) = b.toNat by omega]; simp
theorem decDigits_zero : Lib.decDigits 0 = [48] := by rw [Lib.decDigits_one (by omega)]; rfl
theorem decDigits_big {n : Nat} (h : 10 ≤ n) : Lib.decDigits n = Lib.decDigits (n / 10) ++ [UInt8.ofNat (48 + n % 10)] := by rw [Lib.decDigits, dif_neg (by omega)]
theorem snoc_ind {P : List UInt8 → Prop} (h0 : P []) (h1 : ∀ l b, P l → P (l ++ [b])) (l : List UInt8) : P l := by
  rw [← List.reverse_reverse l]
  induction l.reverse with
  | nil => exact h0
  | cons x xs ih => rw [List.reverse_cons]; exact h1 _ _ ih
theorem decDigits_valN (l : List UInt8) : l ≠ [] → (∀ b ∈ l, digL b = true) → (l.head? = some 48 → l.length ≤ 1) → Lib.decDigits (valN l) = l := by
  refine snoc_ind (P := fun l => l ≠ [] → (∀ b ∈ l, digL b = true) → (l.head? = some 48 → l.length ≤ 1) → Lib.decDigits (valN l) = l) (fun h => absurd rfl h) (fun l b ih _ hd hh => ?_) l
  have hb := hd b (by simp)
  have hbd := digL_bd hb
  rw [valN_snoc]
  by_cases he : l = []
  · subst he
    rw [show 10 * valN [] + (b.toNat - 48) = b.toNat - 48 by simp [valN], Lib.decDigits_one (by omega), ofNat_dig hb]; rfl
  · have hl : 0 < l.length := List.length_pos_iff.2 he
    have hh2 : l.head? ≠ some 48 := fun e => by
      have h9 := hh (by rw [List.head?_append, e]; rfl)
      have h8 : (l ++ [b]).length = l.length + 1 := by simp
      omega
    have ihl := ih he (fun x hx => hd x (by simp [hx])) (fun e => absurd e hh2)
    have hpos : valN l ≠ 0 := fun e => by rw [e, decDigits_zero] at ihl; exact hh2 (by rw [← ihl]; rfl)
    rw [decDigits_big (by omega), show (10 * valN l + (b.toNat - 48)) / 10 = valN l by omega, ihl, show (10 * valN l + (b.toNat - 48)) % 10 = b.toNat - 48 by omega, ofNat_dig hb]
theorem dig_ofNat {d : Nat} (h : d < 10) : digL (UInt8.ofNat (48 + d)) = true ∧ (UInt8.ofNat (48 + d)).toNat = 48 + d := by
  have : (UInt8.ofNat (48 + d)).toNat = 48 + d := by rw [UInt8.toNat_ofNat', Nat.mod_eq_of_lt (by omega)]
  refine ⟨?_, this⟩
  unfold digL digitB; rw [this]; simp only [Bool.and_eq_true, decide_eq_true_eq]; omega
theorem decDigits_dig (n : Nat) : ∀ b ∈ Lib.decDigits n, digL b = true := by
  induction n using Nat.strongRecOn with
  | _ n ih =>
    by_cases h : n < 10
    · rw [Lib.decDigits_one h]; intro b hb; obtain rfl := List.mem_singleton.1 hb; exact (dig_ofNat h).1
    · rw [decDigits_big (by omega)]
      intro b hb
      rcases List.mem_append.1 hb with hb | hb
      · exact ih _ (by omega) b hb
      · obtain rfl := List.mem_singleton.1 hb; exact (dig_ofNat (Nat.mod_lt _ (by omega))).1
theorem valN_decDigits (n : Nat) : valN (Lib.decDigits n) = n := by
  induction n using Nat.strongRecOn with
  | _ n ih =>
    by_cases h : n < 10
    · rw [Lib.decDigits_one h]; show 10 * 0 + ((UInt8.ofNat (48 + n)).toNat - 48) = n; rw [(dig_ofNat h).2]; omega
    · rw [decDigits_big (by omega), valN_snoc, ih _ (by omega), (dig_ofNat (Nat.mod_lt _ (by omega))).2]; omega
theorem decDigits_ne (n : Nat) : Lib.decDigits n ≠ [] := by
  by_cases h : n < 10
  · rw [Lib.decDigits_one h]; simp
  · rw [decDigits_big (by omega)]; simp
theorem decDigits_head (n : Nat) : (Lib.decDigits n).head? = some 48 → n = 0 := by
  induction n using Nat.strongRecOn with
  | _ n ih =>
    by_cases h : n < 10
    · rw [Lib.decDigits_one h]
      intro e
      have e2 : UInt8.ofNat (48 + n) = 48 := by simpa using e
      have := congrArg UInt8.toNat e2
      rw [(dig_ofNat h).2] at this
      have e3 : (48 : UInt8).toNat = 48 := rfl
      omega
    · rw [decDigits_big (by omega)]
      intro e
      cases hd : Lib.decDigits (n / 10) with
      | nil => exact absurd hd (decDigits_ne _)
      | cons x xs =>
        rw [hd] at e
        have := ih (n / 10) (by omega) (by rw [hd]; simpa using e)
        omega
def negB (l : List UInt8) : Bool := l.head? == some 45
def tailL (l : List UInt8) : List UInt8 := if negB l then l.drop 1 else l
def headBad (l : List UInt8) : Bool := decide (tailL l = []) || decide (18 < (tailL l).length) || (decide ((tailL l).head? = some 48) && decide (1 < l.length))
def sgnV (l : List UInt8) : Int := if negB l then -(valN (tailL l) : Int) else (valN (tailL l) : Int)
def numberL (l : List UInt8) : Option Int := if headBad l then none else if (tailL l).all digL then some (sgnV l) else none
theorem numberL_bad {l : List UInt8} (h : headBad l = true) : numberL l = none := by unfold numberL; rw [if_pos h]
theorem numberL_no {l : List UInt8} (h : headBad l = false) (h2 : (tailL l).all digL = false) : numberL l = none := by unfold numberL; rw [h, h2]; rfl
theorem numberL_yes {l : List UInt8} (h : headBad l = false) (h2 : (tailL l).all digL = true) : numberL l = some (sgnV l) := by unfold numberL; rw [h, h2]; rfl
theorem numberL_sound {l : List UInt8} {n : Int} (h : numberL l = some n) : Lib.itoa n = l := by
  cases hb : headBad l
  rotate_left
  · rw [numberL_bad hb] at h; cases h
  cases hd : (tailL l).all digL
  · rw [numberL_no hb hd] at h; cases h
  rw [numberL_yes hb hd] at h
  injection h with h
  subst h
  unfold headBad at hb
  simp only [Bool.or_eq_false_iff, Bool.and_eq_false_iff, decide_eq_false_iff_not] at hb
  obtain ⟨⟨h1, h2⟩, h3⟩ := hb
  have hd' : ∀ b ∈ tailL l, digL b = true := List.all_eq_true.1 hd
  cases hn : negB l
  · have ht : tailL l = l := by unfold tailL; rw [hn]; rfl
    rw [ht] at h1 h2 h3 hd'
    unfold sgnV
    rw [hn, ht]
    show Lib.itoa ((valN l : Nat) : Int) = l
    rw [Lib.itoa_nonneg]
    exact decDigits_valN l h1 hd' (fun e => by rcases h3 with h3 | h3 <;> first | exact absurd e h3 | omega)
  · have ht : tailL l = l.drop 1 := by unfold tailL; rw [hn]; rfl
    have hl : l = 45 :: l.drop 1 := by
      unfold negB at hn
      cases l with
      | nil => simp at hn
      | cons x xs =>
        obtain rfl : x = 45 := by simpa using hn
        rfl
    have hlen : 1 < l.length := by
      have : 0 < (tailL l).length := List.length_pos_iff.2 h1
      rw [ht, List.length_drop] at this; omega
    have hh : (tailL l).head? ≠ some 48 := by rcases h3 with h3 | h3 <;> first | exact h3 | omega
    have hv := decDigits_valN (tailL l) h1 hd' (fun e => absurd e hh)
    have hp : valN (tailL l) ≠ 0 := fun e => by rw [e, decDigits_zero] at hv; exact hh (by rw [← hv]; rfl)
    unfold sgnV
    rw [hn]
    show Lib.itoa (-((valN (tailL l) : Nat) : Int)) = l
    rw [Lib.itoa_neg _ (by omega), hv, ht, ← hl]
theorem negB_dec (n : Nat) : negB (Lib.decDigits n) = false := by
  unfold negB
  cases hd : Lib.decDigits n with
  | nil => rfl
  | cons x xs =>
    have hx := digL_bd (decDigits_dig n x (by rw [hd]; simp))
    have : x ≠ 45 := fun e => by rw [e] at hx; have e3 : (45 : UInt8).toNat = 45 := rfl; omega
    simpa using this
theorem numberL_dec (n : Nat) (h : n ≤ 1000000000000) : numberL (Lib.decDigits n) = some (n : Int) := by
  have hn := negB_dec n
  have ht : tailL (Lib.decDigits n) = Lib.decDigits n := by unfold tailL; rw [hn]; rfl
  have hl := dec_lenP n h
  rw [numberL_yes]
  · unfold sgnV; rw [hn, ht, valN_decDigits]; rfl
  · unfold headBad
    rw [ht]
    simp only [Bool.or_eq_false_iff, Bool.and_eq_false_iff, decide_eq_false_iff_not]
    refine ⟨⟨decDigits_ne n, by omega⟩, ?_⟩
    by_cases e : (Lib.decDigits n).head? = some 48
    · have := decDigits_head n e
      subst this
      right; rw [decDigits_zero]; simp
    · exact .inl e
  · rw [ht]; exact List.all_eq_true.2 (decDigits_dig n)
/-! ### lists -/
def inV (n : Int) : Bool := inB n (-1000000000000) 1000000000000
def readAll : List (List UInt8) → Option (List Int)
  | [] => some []
  | p :: ps => match numberL p with | none => none | some n => if inV n then (readAll ps).map (n :: ·) else none
def readL (l : List UInt8) : Option (List Int) := if l = [45] then some [] else if 64 < (splitL 44 l).length then none else readAll (splitL 44 l)
theorem readAll_no {p : List UInt8} (ps : List (List UInt8)) (h : numberL p = none) : readAll (p :: ps) = none := by rw [readAll, h]
theorem readAll_out {p : List UInt8} (ps : List (List UInt8)) {n : Int} (h : numberL p = some n) (h2 : inV n = false) : readAll (p :: ps) = none := by rw [readAll, h]; simp [h2]
theorem readAll_in {p : List UInt8} (ps : List (List UInt8)) {n : Int} (h : numberL p = some n) (h2 : inV n = true) : readAll (p :: ps) = (readAll ps).map (n :: ·) := by rw [readAll, h]; simp [h2]
theorem readAll_sound : ∀ (ps : List (List UInt8)) {ns : List Int}, readAll ps = some ns → digs ns = ps ∧ ∀ n ∈ ns, decOk n
  | [], ns, h => by rw [readAll] at h; injection h with h; subst h; exact ⟨rfl, fun _ hn => absurd hn (by simp)⟩
  | p :: ps, ns, h => by
    cases hp : numberL p with
    | none => rw [readAll_no ps hp] at h; cases h
    | some n =>
      cases hi : inV n
      · rw [readAll_out ps hp hi] at h; cases h
      · rw [readAll_in ps hp hi] at h
        cases hr : readAll ps with
        | none => rw [hr] at h; cases h
        | some ms =>
          rw [hr] at h
          injection h with h
          subst h
          obtain ⟨h1, h2⟩ := readAll_sound ps hr
          refine ⟨by show Lib.itoa n :: digs ms = _; rw [h1, numberL_sound hp], fun x hx => ?_⟩
          rcases List.mem_cons.1 hx with rfl | hx
          · unfold inV inB at hi; simp only [Bool.and_eq_true, decide_eq_true_eq] at hi; exact ⟨hi.1, hi.2⟩
          · exact h2 x hx
theorem readL_sound {l : List UInt8} {ns : List Int} (h : readL l = some ns) (h4 : ns.length ≠ 0) : Lib.join (digs ns) [44] = l := by
  unfold readL at h
  split at h
  · injection h with h; subst h; exact absurd rfl h4
  · split at h
    · cases h
    · rw [(readAll_sound _ h).1]; exact splitL_join 44 l
theorem readAll_digs : ∀ ns : List Int, (∀ n ∈ ns, 0 ≤ n ∧ n ≤ 1000000000000) → readAll (digs ns) = some ns
  | [], _ => rfl
  | n :: ns, h => by
    have hn := h n (by simp)
    obtain ⟨m, rfl⟩ : ∃ m : Nat, n = m := ⟨n.toNat, by omega⟩
    have e : numberL (Lib.itoa (m : Int)) = some (m : Int) := by rw [Lib.itoa_nonneg]; exact numberL_dec m (by omega)
    show readAll (Lib.itoa (m : Int) :: digs ns) = _
    rw [readAll_in _ e (by unfold inV inB; simp only [Bool.and_eq_true, decide_eq_true_eq]; omega), readAll_digs ns (fun x hx => h x (by simp [hx]))]; rfl
theorem itoa_dig {n : Int} (h : 0 ≤ n) : ∀ b ∈ Lib.itoa n, digL b = true := by
  obtain ⟨m, rfl⟩ : ∃ m : Nat, n = m := ⟨n.toNat, by omega⟩
  rw [Lib.itoa_nonneg]; exact decDigits_dig m
theorem notDig {b c : UInt8} (h : digL b = true) (hc : digL c = false) : c ≠ b := fun e => by rw [e] at hc; rw [hc] at h; cases h
theorem digs_no {ns : List Int} (h : ∀ n ∈ ns, 0 ≤ n ∧ n ≤ 1000000000000) {c : UInt8} (hc : digL c = false) : ∀ p ∈ digs ns, c ∉ p := by
  intro p hp hcp
  obtain ⟨n, hn, rfl⟩ := List.mem_map.1 hp
  exact notDig (itoa_dig (h n hn).1 c hcp) hc rfl
theorem digs_len (ns : List Int) : (digs ns).length = ns.length := by unfold digs; simp
theorem readL_digs {ns : List Int} (h : ∀ n ∈ ns, 0 ≤ n ∧ n ≤ 1000000000000) (h4 : ns.length = 4) : readL (Lib.join (digs ns) [44]) = some ns := by
  have hne : digs ns ≠ [] := fun e => by have h9 := congrArg List.length e; rw [digs_len, h4] at h9; simp at h9
  have hs := splitL_of 44 (digs ns) hne (digs_no h (by decide))
  unfold readL
  rw [if_neg (fun e => by rw [e, splitL_none 44 [45] (by decide)] at hs; have h9 := congrArg List.length hs; rw [digs_len, h4] at h9; simp at h9), hs, if_neg (by rw [digs_len]; omega)]
  exact readAll_digs ns h
/-! ### sensors -/
def mkS (a : List UInt8) (ns : List Int) : Sensor := ⟨⟨a.toArray⟩, ns.getD 0 0, ns.getD 1 0, ns.getD 2 0, ns.getD 3 0⟩
def specRd (l : List UInt8) : Option Sensor :=
  if (splitL 32 l).length = 2 then
    match readL ((splitL 32 l).getD 1 []) with
    | none => none
    | some ns => if ns.length = 4 then (if sensorB (mkS ((splitL 32 l).getD 0 []) ns) then some (mkS ((splitL 32 l).getD 0 []) ns) else none) else none
  else none
def nsOf (x : Sensor) : List Int := [x.junction, x.limit, x.delay, x.release]
theorem sensorT_data (x : Sensor) : (sensorT x).data.toList = x.id.data.toList ++ 32 :: Lib.join (digs (nsOf x)) [44] := by
  unfold sensorT idText textT nsOf
  simp
theorem text_eq {s t : ByteArray} (h : s.data.toList = t.data.toList) : s = t := by
  cases s; cases t
  rename_i a b
  obtain ⟨a⟩ := a
  obtain ⟨b⟩ := b
  simp at h; subst h; rfl
theorem name_no {s : ByteArray} (h : nameB s = true) {c : UInt8} (hc : nameCh c = false) : c ∉ s.data.toList := by
  intro hm
  unfold nameB at h
  simp only [Bool.and_eq_true] at h
  have := List.all_eq_true.1 h.2 c hm
  rw [hc] at this; cases this
theorem sensorB_nn {x : Sensor} (h : sensorB x = true) : nameB x.id = true ∧ ∀ n ∈ nsOf x, 0 ≤ n ∧ n ≤ 1000000000000 := by
  unfold sensorB inB at h; simp only [Bool.and_eq_true, decide_eq_true_eq] at h
  refine ⟨by simp [h], fun n hn => ?_⟩
  unfold nsOf at hn
  simp only [List.mem_cons, List.not_mem_nil, or_false] at hn
  rcases hn with rfl | rfl | rfl | rfl <;> omega
theorem join_no {c : UInt8} : ∀ {ps : List (List UInt8)}, (∀ p ∈ ps, c ∉ p) → ∀ {d : UInt8}, c ≠ d → c ∉ Lib.join ps [d]
  | [], _, _, _ => by simp [Lib.join_nil]
  | [p], h, _, _ => by rw [Lib.join_one]; exact h p (by simp)
  | p :: q :: ps, h, d, hd => by
    rw [join_cons2]
    simp only [List.mem_append, List.mem_singleton, not_or]
    exact ⟨⟨h p (by simp), hd⟩, join_no (fun x hx => h x (by simp [hx])) hd⟩
theorem specRd_iff (s : ByteArray) (x : Sensor) : specRd s.data.toList = some x ↔ sensorB x = true ∧ s = sensorT x := by
  constructor
  · intro h
    unfold specRd at h
    split at h
    rotate_left
    · cases h
    rename_i h2
    match hw : splitL 32 s.data.toList, h2 with
    | [a, b], _ =>
      rw [hw] at h
      simp only [List.getD_cons_zero, List.getD_cons_succ] at h
      cases hr : readL b with
      | none => rw [hr] at h; cases h
      | some ns =>
        rw [hr] at h
        simp only at h
        split at h
        rotate_left
        · cases h
        rename_i h4
        split at h
        rotate_left
        · cases h
        rename_i hv
        injection h with h
        subst h
        refine ⟨hv, text_eq ?_⟩
        have hj := splitL_join 32 s.data.toList
        rw [hw, join_cons2, Lib.join_one] at hj
        have hns : nsOf (mkS a ns) = ns := by
          match ns, h4 with
          | [n0, n1, n2, n3], _ => rfl
        rw [sensorT_data, hns, readL_sound hr (by omega), ← hj]
        simp [mkS]
  · rintro ⟨hv, rfl⟩
    obtain ⟨hn, hb⟩ := sensorB_nn hv
    have hw : splitL 32 (sensorT x).data.toList = [x.id.data.toList, Lib.join (digs (nsOf x)) [44]] := by
      rw [sensorT_data, splitL_app 32 _ _ (name_no hn (by decide)), splitL_none 32 _ (join_no (digs_no hb (by decide)) (by decide))]
    unfold specRd
    rw [hw]
    simp only [List.length_cons, List.length_nil, List.getD_cons_zero, List.getD_cons_succ, if_true, readL_digs hb rfl]
    have hm : mkS x.id.data.toList (nsOf x) = x := by
      unfold mkS nsOf
      cases x; rfl
    rw [hm, hv]; simp [nsOf]
/-! ### the program's way -/
theorem cut_app {a b : List UInt8} (h : (32 : UInt8) ∉ a) : Lib.cut (a ++ 32 :: b) [32] = (a, b, true) := by
  have hi : Lib.index (a ++ 32 :: b) [32] = a.length := by
    refine Lib.index_first (by simp) (by simp [Lib.occAt]) (fun j hj => ?_)
    unfold Lib.occAt
    rw [List.drop_append_of_le_length (by omega), List.drop_eq_getElem_cons hj]
    simp only [List.cons_append, List.isPrefixOf, Bool.and_true, beq_eq_false_iff_ne]
    exact fun e => h (e ▸ List.getElem_mem hj)
  unfold Lib.cut
  rw [hi, if_pos (by omega)]
  simp
theorem cut_nil : Lib.cut [] [32] = ([], [], false) := by decide
theorem splitK_join : ∀ (ps : List (List UInt8)) (k : Nat), ps ≠ [] → (∀ p ∈ ps, (44 : UInt8) ∉ p) → ps.length ≤ k + 1 → Lib.splitK [44] 0 k (Lib.join ps [44]) = ps
  | [], _, h, _, _ => absurd rfl h
  | [p], k, _, h, _ => by
    rw [Lib.join_one]
    have hi : Lib.index p [44] = -1 := Lib.index_none (fun j _ => by
      unfold Lib.occAt
      cases hd : p.drop j with
      | nil => rfl
      | cons y ys =>
        simp only [List.isPrefixOf, Bool.and_true, beq_eq_false_iff_ne]
        exact fun e => h p (by simp) (List.mem_of_mem_drop (i := j) (by rw [hd, e]; simp)))
    cases k with
    | zero => rfl
    | succ k => unfold Lib.splitK; rw [hi]; rfl
  | p :: q :: ps, 0, _, _, hl => by simp at hl
  | p :: q :: ps, k + 1, _, h, hl => by
    have hp : (44 : UInt8) ∉ p := h p (by simp)
    have hi : Lib.index (Lib.join (p :: q :: ps) [44]) [44] = p.length := by
      rw [join_cons2, List.append_assoc]
      refine Lib.index_first (by simp) (by simp [Lib.occAt]) (fun j hj => ?_)
      unfold Lib.occAt
      rw [List.drop_append_of_le_length (by omega), List.drop_eq_getElem_cons hj]
      simp only [List.cons_append, List.isPrefixOf, Bool.and_true, beq_eq_false_iff_ne]
      exact fun e => hp (e ▸ List.getElem_mem hj)
    have ih := splitK_join (q :: ps) k (by simp) (fun x hx => h x (by simp [hx])) (by simp at hl ⊢; omega)
    unfold Lib.splitK
    rw [hi, if_neg (by simp), Int.toNat_natCast, join_cons2, List.append_assoc]
    have e1 : (p ++ ([44] ++ Lib.join (q :: ps) [44])).take (p.length + 0) = p := by simp
    have e2 : (p ++ ([44] ++ Lib.join (q :: ps) [44])).drop (p.length + ([44] : List UInt8).length) = Lib.join (q :: ps) [44] := by
      rw [show p.length + ([44] : List UInt8).length = p.length + 1 from rfl, ← List.drop_drop, List.drop_left]; rfl
    rw [e1, e2, ih]
theorem parseM_dig (M : Nat) (hM : 1000000000000 ≤ M) : ∀ (l : List UInt8) (acc : Nat), (∀ b ∈ l, digL b = true) → l.foldl (fun n b => 10 * n + (b.toNat - 48)) acc ≤ 1000000000000 → Lib.parseUintM M acc l = .ok (l.foldl (fun n b => 10 * n + (b.toNat - 48)) acc)
  | [], _, _, _ => rfl
  | c :: r, acc, hd, hb => by
    have hc := digL_bd (hd c (by simp))
    have hmono : ∀ (r : List UInt8) (a : Nat), a ≤ r.foldl (fun n b => 10 * n + (b.toNat - 48)) a := by
      intro r
      induction r with
      | nil => intro a; exact Nat.le_refl _
      | cons x xs ih => intro a; exact Nat.le_trans (by omega) (ih (10 * a + (x.toNat - 48)))
    have h1 := hmono r (10 * acc + (c.toNat - 48))
    have hb' : r.foldl (fun n b => 10 * n + (b.toNat - 48)) (10 * acc + (c.toNat - 48)) ≤ 1000000000000 := hb
    have e : acc * 10 + (c.toNat - 48) = 10 * acc + (c.toNat - 48) := by omega
    rw [Lib.parseUintM, if_pos hc, if_neg (by omega), if_neg (by omega), e]
    exact parseM_dig M hM r _ (fun b hb => hd b (by simp [hb])) hb'
theorem parse_dec (n : Nat) (h : n ≤ 1000000000000) : Lib.parseIntB 64 (Lib.decDigits n) = .ok (n : Int) := by
  have hd := decDigits_dig n
  have hv := valN_decDigits n
  have hne := decDigits_ne n
  cases hl : Lib.decDigits n with
  | nil => exact absurd hl hne
  | cons c r =>
    rw [hl] at hd hv
    have hc := digL_bd (hd c (by simp))
    unfold valN at hv
    have hp := parseM_dig (2 ^ 64 - 1) (by decide) (c :: r) 0 hd (by omega)
    rw [hv] at hp
    have hu : Lib.parseUintB 64 (c :: r) = .ok n := by unfold Lib.parseUintB; rw [if_neg (by simp)]; exact hp
    rw [Lib.parseIntB_plain 64 c r (by omega) (by omega), hu]
    show (if 2 ^ (64 - 1) ≤ n then Lib.NumEnd.range else Lib.NumEnd.ok (n : Int)) = _
    rw [if_neg (by have : (2 : Nat) ^ (64 - 1) = 9223372036854775808 := by decide
                   omega)]
theorem itoa_inj_nn {a b : Int} (ha : 0 ≤ a) (h : Lib.itoa a = Lib.itoa b) : a = b := by
  obtain ⟨m, rfl⟩ : ∃ m : Nat, a = m := ⟨a.toNat, by omega⟩
  rw [Lib.itoa_nonneg] at h
  by_cases hb : 0 ≤ b
  · obtain ⟨k, rfl⟩ : ∃ k : Nat, b = k := ⟨b.toNat, by omega⟩
    rw [Lib.itoa_nonneg] at h
    have := congrArg valN h
    rw [valN_decDigits, valN_decDigits] at this; omega
  · obtain ⟨k, rfl, hk⟩ : ∃ k : Nat, b = -(k : Int) ∧ 1 ≤ k := ⟨b.natAbs, by omega, by omega⟩
    rw [Lib.itoa_neg k hk] at h
    have := negB_dec m
    rw [h] at this; simp [negB] at this
theorem itoa_ne (n : Int) : Lib.itoa n ≠ [] := by
  unfold Lib.itoa
  split
  · simp
  · exact decDigits_ne _
end Go.Proofs.YtopjccbjdcoanaaDoor
