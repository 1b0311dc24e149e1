/- Contracts of PermitsAt in both packages. -/
import Derived.Test.YtojmfjdbggpllaaMPermit
import Derived.Test.YtojmfjdbggpllaaApp
import Derived.Test.YtojmfjdbggpllaaNums
namespace Go.Proofs.Ytojmfjdbggpllaa
set_option linter.unusedVariables false
open Go.RowKit
theorem wp_append1x {P : Program} {ops : Array Oper} {rest : List Oper} {o : Oper} {a : Act} {Q : Exit → Act → World → Prop} (W : World) (b0 : Nat) (hb0 : b0 = W.heap.size) (hgd : o.guard = none) (s x : Operand) (t : TypeId) (ho : o.op = .call { callee := .builtin .append, args := #[s, x], argTypes := #[t, t] })
    (base e K bytes : Nat) (z : Value) (ht : P.underlying t = some (.slice e)) (hinfo : (P.info? e).map (fun i => (i.zero, i.size, i.bytes)) = some (some z, K, bytes)) (hz : z.cells.size = K) (hK : 0 < K) (hb : bytes ≤ 1024)
    (v : Value) (n : Nat) (xs : List Value) (hown : W.ownsRow base e K v n xs) (hs : a.eval s = v) (us : List Value) (hl : us.length = K) (h1 : ∀ u ∈ us, u.oneCell' = true) (cs : Array Value) (hcs : cs = us.toArray)
    (hx : a.eval x = .slice (some ⟨b0, 0, none⟩) 1 1) (hn : n ≤ 2097152) (hbase : base ≤ W.heap.size)
    (h : ∀ v' w', w'.ownsRow base e K v' (n + 1) (xs ++ us) → Below base W w' → wpList P ops Q rest (a.put o.dst v') w') : wpList P ops Q (o :: rest) a (W.alloc (.cells cs e)) := by
  subst hb0; exact wp_append1 W hgd s x t ho base e K bytes z ht hinfo hz hK hb v n xs hown hs us hl h1 cs hcs hx hn hbase h
def holdB (t : Int) (x : Permit) : Bool := decide (x.frm ≤ t) && decide (t < x.til)
def holdP (xs : List Permit) (t : Int) : Nat → Bool := tst xs (holdB t)
def permR (j : Int) (ays : List Airway) (xs : List Permit) (t : Int) : List Int × Int :=
  if mineB j ays && permitsB (ays.length : Int) xs then (if inB t 0 100000 then (ixs (holdP xs t) xs.length, 0) else ([], 2)) else ([], 1)
theorem permR_no {j : Int} {ays : List Airway} {xs : List Permit} (t : Int) (h : (mineB j ays && permitsB (ays.length : Int) xs) = false) : permR j ays xs t = ([], 1) := by unfold permR; rw [h]; rfl
theorem permR_range {j : Int} {ays : List Airway} {xs : List Permit} {t : Int} (h : (mineB j ays && permitsB (ays.length : Int) xs) = true) (h2 : inB t 0 100000 = false) : permR j ays xs t = ([], 2) := by unfold permR; rw [h, h2]; rfl
theorem permR_ok {j : Int} {ays : List Airway} {xs : List Permit} {t : Int} (h : (mineB j ays && permitsB (ays.length : Int) xs) = true) (h2 : inB t 0 100000 = true) : permR j ays xs t = (ixs (holdP xs t) xs.length, 0) := by unfold permR; rw [h, h2]; rfl
theorem perm_til {n : Int} {xs : List Permit} (h : permitsB n xs = true) (k : Nat) (hk : k < xs.length) : 0 ≤ xs[k].til ∧ xs[k].til ≤ 100000 := by
  unfold permitsB at h; rw [Bool.and_eq_true] at h
  have := allOk_p h.2 k hk
  unfold permitsP permitP inB at this; simp only [Bool.and_eq_true, decide_eq_true_eq] at this; omega
set_option maxRecDepth 100000 in
set_option maxHeartbeats 1000000 in
theorem specPermitsAt (j : Int) (ays : List Airway) (xs : List Permit) (t : Int) (lo hi lo2 hi2 : Nat) (v v2 : Value) (w : World) (hv : Sl lo hi w 7 v ays.length (flat Airway.enc ays)) (hsA : ∀ x ∈ ays, x.id.size ≤ maxLen) (hnA : ays.length ≤ 1048576) (hv2 : Sl lo2 hi2 w 5 v2 xs.length (flat Permit.enc xs)) (hs : ∀ x ∈ xs, x.id.size ≤ maxLen) (hn : xs.length ≤ 1048576) :
    Calls Try.prog 49 #[.agg #[.int .i64 j, v], v2, .int .i64 t] w fun e w' => (∃ v', e = .returned (.tuple #[v', .int .i64 (permR j ays xs t).2]) ∧ Own w.heap.size w'.heap.size w' 2 1 v' (permR j ays xs t).1.length (flat encI (permR j ays xs t).1)) ∧ Ext w w' := by
  go_enter Try.func49, Try.ntmps49
  go_wp2_with fail
  generalize hG : w.alloc _ = wz
  have hE1 : Ext w wz := by rw [← hG]; exact Ext.new _ _
  have hm : MineAt wz w.heap.size 0 j v := by subst hG; exact ⟨by go_simp, by go_simp⟩
  clear hG
  cases hMS : (mineB j ays && permitsB (ays.length : Int) xs)
  · have HQ := hid (permR_no t hMS)
    refine (cv (permitsSpec j ays xs w.heap.size 0 _ _ _ _ _ _ _ hm (hv.ext hE1) hsA hnA (hv2.ext hE1) hs hn) (vb hMS)).mono ?_
    rintro e w1 ⟨rfl, hE⟩
    go_wp2
    go_ret2
    exact ⟨⟨_, by rw [HQ.out]; rfl, by rw [HQ.out]; exact Own.nil _ _ (Ext.tr hE1 hE)⟩, Ext.tr hE1 hE⟩
  refine (cv (permitsSpec j ays xs w.heap.size 0 _ _ _ _ _ _ _ hm (hv.ext hE1) hsA hnA (hv2.ext hE1) hs hn) (vb hMS)).mono ?_
  rintro e w1 ⟨rfl, hE0⟩
  have hE := Ext.tr hE1 hE0
  clear hm hE0
  cases hI : inB t 0 100000
  · have HQ := hid (permR_range hMS hI)
    go_wp2_with (go_at_call 79; refine (cv (l00In _ _ _ _) (vb hI)).mono ?_; rintro e w' ⟨rfl, rfl⟩)
    go_ret2
    exact ⟨⟨_, by rw [HQ.out]; rfl, by rw [HQ.out]; exact Own.nil _ _ hE⟩, hE⟩
  have HQ := hid (permR_ok hMS hI)
  obtain ⟨hhi, _, A, c, rfl, hnc, hcm, hcell⟩ := hv2
  go_wp2_with (go_at_call 79; refine (cv (l00In _ _ _ _) (vb hI)).mono ?_; rintro e w' ⟨rfl, rfl⟩)
  have hz := hE.size
  go_loopw [8, 9] (fun u i wr => ∃ (k : Nat), k ≤ xs.length ∧ i = .int .i64 k ∧ wr.ownsRow w.heap.size 2 1 u (ixs (holdP xs t) k).length (flat encI (ixs (holdP xs t) k)) ∧ Ext w wr) (fun _ i _ => xs.length - (intOf i).toNat)
  case atStart => exact ⟨0, by omega, rfl, own_empty _ _ _ _ hz, Ext.tr hE (Ext.new _ _)⟩
  case round =>
    obtain ⟨k, hk, rfl, hown, hE3⟩ := hrel
    by_cases hlt : k < xs.length
    · obtain ⟨b, off, rfl, hb1, hb2, hc⟩ := hcell (by omega)
      have hbw : b < w.heap.size := by omega
      obtain ⟨c0, c1, c2, c3, c4⟩ := Permit.at_of hc hE3 hbw k hlt
      clear hc
      have htst := tst_at xs (holdB t) k hlt
      have hz3 := hE3.size
      have hil := ixs_len (holdP xs t) k
      by_cases hd : xs[k].frm ≤ t
      · by_cases hd2 : t < xs[k].til
        · have HX := hid (ixs_yes (holdP xs t) k (by unfold holdP; rw [htst]; simp [holdB, hd, hd2]))
          clear htst
          go_wp2_with (at_builtin; refine wp_append1 wr rfl (.tmp 39) (.tmp 41) _ rfl w.heap.size 2 1 8 _ Try.underlying62 infoInt rfl (by omega) (by omega) _ _ _ hown rfl [.int .i64 k] rfl (by simp [Value.oneCell']) _ rfl rfl (by omega) hz3 ?_; intro v' w' ho' hb')
          go_roundw
          case rel => exact ⟨k + 1, by omega, by go_num, by rw [HX.out, flat_snoc, List.length_append]; exact ho', hE3.trans hb'⟩
          case measure => simp [intOf]; omega
        · have HX := hid (ixs_no (holdP xs t) k (by unfold holdP; rw [htst]; simp [holdB, hd2]))
          clear htst
          go_wp2
          go_roundw
          case rel => exact ⟨k + 1, by omega, by go_num, by rw [HX.out]; exact hown, hE3⟩
          case measure => simp [intOf]; omega
      · have HX := hid (ixs_no (holdP xs t) k (by unfold holdP; rw [htst]; simp [holdB, hd]))
        clear htst
        go_wp2
        go_roundw
        case rel => exact ⟨k + 1, by omega, by go_num, by rw [HX.out]; exact hown, hE3⟩
        case measure => simp [intOf]; omega
    · obtain rfl : k = xs.length := by omega
      go_wp2
      go_ret2
      exact ⟨⟨_, by rw [HQ.out]; rfl, by rw [HQ.out]; exact Own.of hown (by have := ixs_len (holdP xs t) xs.length; show (ixs (holdP xs t) xs.length).length ≤ _; omega)⟩, hE3⟩
set_option maxRecDepth 100000 in
set_option maxHeartbeats 1000000 in
theorem implPermitsAt (j : Int) (ays : List Airway) (xs : List Permit) (t : Int) (lo hi lo2 hi2 : Nat) (v v2 : Value) (w : World) (hv : Sl lo hi w 7 v ays.length (flat Airway.enc ays)) (hsA : ∀ x ∈ ays, x.id.size ≤ maxLen) (hnA : ays.length ≤ 1048576) (hv2 : Sl lo2 hi2 w 5 v2 xs.length (flat Permit.enc xs)) (hs : ∀ x ∈ xs, x.id.size ≤ maxLen) (hn : xs.length ≤ 1048576) :
    Calls Try.prog 50 #[.agg #[.int .i64 j, v], v2, .int .i64 t] w fun e w' => (∃ v', e = .returned (.tuple #[v', .int .i64 (permR j ays xs t).2]) ∧ Own w.heap.size w'.heap.size w' 2 1 v' (permR j ays xs t).1.length (flat encI (permR j ays xs t).1)) ∧ Ext w w' := by
  go_enter Try.func50, Try.ntmps50
  go_wp2_with fail
  generalize hG : w.alloc _ = wz
  have hE1 : Ext w wz := by rw [← hG]; exact Ext.new _ _
  clear hG
  cases hMS : (mineB j ays && permitsB (ays.length : Int) xs)
  · have HQ := hid (permR_no t hMS)
    refine (cv (permitsImpl j ays xs _ _ _ _ _ _ _ (hv.ext hE1) hsA hnA (hv2.ext hE1) hs hn) (vb hMS)).mono ?_
    rintro e w1 ⟨rfl, hE⟩
    go_wp2
    go_ret2
    exact ⟨⟨_, by rw [HQ.out]; rfl, by rw [HQ.out]; exact Own.nil _ _ (Ext.tr hE1 hE)⟩, Ext.tr hE1 hE⟩
  refine (cv (permitsImpl j ays xs _ _ _ _ _ _ _ (hv.ext hE1) hsA hnA (hv2.ext hE1) hs hn) (vb hMS)).mono ?_
  rintro e w1 ⟨rfl, hE0⟩
  have hE := Ext.tr hE1 hE0
  clear hE0
  have htil := perm_til (n := (ays.length : Int)) (xs := xs) (by rw [Bool.and_eq_true] at hMS; exact hMS.2)
  have HTIL := hid htil
  clear htil
  cases hI : inB t 0 100000
  · have HQ := hid (permR_range hMS hI)
    go_wp2_with (go_at_call 94; refine (cv (within _ _ _ _) (vb hI)).mono ?_; rintro e w' ⟨rfl, rfl⟩)
    go_ret2
    exact ⟨⟨_, by rw [HQ.out]; rfl, by rw [HQ.out]; exact Own.nil _ _ hE⟩, hE⟩
  have HQ := hid (permR_ok hMS hI)
  obtain ⟨hhi, _, A, c, rfl, hnc, hcm, hcell⟩ := hv2
  go_wp2_with (go_at_call 94; refine (cv (within _ _ _ _) (vb hI)).mono ?_; rintro e w' ⟨rfl, rfl⟩)
  have hz := hE.size
  go_loopw [8, 22] (fun u i wr => ∃ (k : Nat), k ≤ xs.length ∧ i = .int .i64 k ∧ wr.ownsRow w.heap.size 2 1 u (ixs (holdP xs t) k).length (flat encI (ixs (holdP xs t) k)) ∧ Ext w wr) (fun _ i _ => xs.length - (intOf i).toNat)
  case atStart => exact ⟨0, by omega, rfl, World.ownsRow_nil _ _ _ _, hE⟩
  case round =>
    obtain ⟨k, hk, rfl, hown, hE3⟩ := hrel
    by_cases hlt : k < xs.length
    · obtain ⟨b, off, rfl, hb1, hb2, hc⟩ := hcell (by omega)
      have hbw : b < w.heap.size := by omega
      obtain ⟨c0, c1, c2, c3, c4⟩ := Permit.at_of hc hE3 hbw k hlt
      clear hc
      have htst := tst_at xs (holdB t) k hlt
      have hz3 := hE3.size
      have hil := ixs_len (holdP xs t) k
      obtain ⟨ht0, ht1⟩ := HTIL.out k hlt
      have hEn := Ext.new wr (.cells #[.string xs[k].id, .int .i64 xs[k].kind, .int .i64 xs[k].airway, .int .i64 xs[k].frm, .int .i64 xs[k].til] 113)
      have how := ownE hown hEn
      have hz4 := Nat.le_trans hz3 hEn.size
      have hio : holdB t xs[k] = inB t xs[k].frm (xs[k].til - 1) := by
        unfold holdB inB; rw [Bool.eq_iff_iff]; simp only [Bool.and_eq_true, decide_eq_true_eq]; omega
      cases hd : inB t xs[k].frm (xs[k].til - 1)
      · have HX := hid (ixs_no (holdP xs t) k (by unfold holdP; rw [htst, hio, hd]))
        clear htst hio
        go_wp2_with (go_at_call 94; refine (cv (within _ _ _ _) (vb hd)).mono ?_; rintro e w' ⟨rfl, rfl⟩)
        go_roundw
        case rel => exact ⟨k + 1, by omega, by go_num, by rw [HX.out]; exact how, Ext.tr hE3 hEn⟩
        case measure => simp [intOf]; omega
      · have HX := hid (ixs_yes (holdP xs t) k (by unfold holdP; rw [htst, hio, hd]))
        clear htst hio
        go_wp2_with (first | (go_at_call 94; refine (cv (within _ _ _ _) (vb hd)).mono ?_; rintro e w' ⟨rfl, rfl⟩) | (at_builtin; refine wp_append1x (wr.alloc (.cells #[.string xs[k].id, .int .i64 xs[k].kind, .int .i64 xs[k].airway, .int .i64 xs[k].frm, .int .i64 xs[k].til] 113)) (wr.heap.size + 1) (by simp) rfl (.tmp 34) (.tmp 36) _ rfl w.heap.size 2 1 8 _ Try.underlying62 infoInt rfl (by omega) (by omega) _ _ _ how rfl [.int .i64 k] rfl (by simp [Value.oneCell']) _ rfl rfl (by omega) hz4 ?_; intro v' w' ho' hb'))
        go_roundw
        case rel => exact ⟨k + 1, by omega, by go_num, by rw [HX.out, flat_snoc, List.length_append]; exact ho', (Ext.tr hE3 (Ext.new _ _)).trans hb'⟩
        case measure => simp [intOf]; omega
    · obtain rfl : k = xs.length := by omega
      go_wp2
      go_ret2
      exact ⟨⟨_, by rw [HQ.out]; rfl, by rw [HQ.out]; exact Own.of hown (by have := ixs_len (holdP xs t) xs.length; show (ixs (holdP xs t) xs.length).length ≤ _; omega)⟩, hE3⟩
end Go.Proofs.Ytojmfjdbggpllaa
