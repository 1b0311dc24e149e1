/- The reference's list of numbers of a text. -/
import Derived.Test.YtopjccbjdcoanaaDoorRdN
namespace Go.Proofs.YtopjccbjdcoanaaDoor
set_option linter.unusedVariables false
open Go.RowKit
theorem splitL_le (c : UInt8) : ∀ (l : List UInt8), ∀ p ∈ splitL c l, p.length ≤ l.length
  | [], p, hp => by rw [splitL] at hp; obtain rfl := List.mem_singleton.1 hp; exact Nat.le_refl _
  | x :: xs, p, hp => by
    have ih := splitL_le c xs
    rw [splitL] at hp
    split at hp
    · rcases List.mem_cons.1 hp with rfl | hp
      · simp
      · have := ih p hp; simp; omega
    · split at hp
      · rename_i h; exact absurd h (splitL_ne c xs)
      · rename_i y ys h
        rw [h] at ih
        rcases List.mem_cons.1 hp with rfl | hp
        · have := ih y (by simp); simp; omega
        · have := ih p (by simp [hp]); simp; omega
theorem splitL_count (c : UInt8) : ∀ l : List UInt8, (splitL c l).length ≤ l.length + 1
  | [] => Nat.le_refl _
  | x :: xs => by
    have ih := splitL_count c xs
    rw [splitL]
    split
    · simp; omega
    · split
      · simp
      · rename_i y ys h
        rw [h] at ih
        simp at ih ⊢; omega
def readO (l : List UInt8) : Bool := (readL l).isSome
def readV (l : List UInt8) : List Int := (readL l).getD []
theorem readR_dash : readO [45] = true ∧ readV [45] = [] := by unfold readO readV readL; rw [if_pos rfl]; exact ⟨rfl, rfl⟩
theorem readR_long {l : List UInt8} (h : ¬ l = [45]) (h2 : 64 < (splitL 44 l).length) : readO l = false ∧ readV l = [] := by unfold readO readV readL; rw [if_neg h, if_pos h2]; exact ⟨rfl, rfl⟩
theorem readR_all {l : List UInt8} (h : ¬ l = [45]) (h2 : ¬ 64 < (splitL 44 l).length) {r : Option (List Int)} (hr : readAll (splitL 44 l) = r) : readO l = r.isSome ∧ readV l = r.getD [] := by unfold readO readV readL; rw [if_neg h, if_neg h2, hr]; exact ⟨rfl, rfl⟩
theorem num_some {p : List UInt8} (h : numO p = true) : numberL p = some (numR p) := by
  unfold numO at h; unfold numR
  cases hn : numberL p with
  | none => rw [hn] at h; cases h
  | some n => rfl
theorem num_none {p : List UInt8} (h : numO p = false) : numberL p = none := by
  unfold numO at h
  cases hn : numberL p with
  | none => rfl
  | some n => rw [hn] at h; cases h
theorem own_base {w : World} {b b' t K n : Nat} {v : Value} {xs : List Value} (h : w.ownsRow b t K v n xs) (hb : b' ≤ b) : w.ownsRow b' t K v n xs :=
  ⟨h.1, h.2.imp id (fun ⟨g, cap, cur, e, hg, r⟩ => ⟨g, cap, cur, e, Nat.le_trans hb hg, r⟩)⟩
theorem own_nilS (w : World) (lo t : Nat) : w.ownsRow lo t 1 (.slice none 0 0) 0 (flat encI []) := ⟨rfl, .inl ⟨rfl, rfl⟩⟩
theorem infoI : (Tryd.prog.info? 2).map (fun i => (i.zero, i.size, i.bytes)) = some (some (.int .i64 0), 1, 8) := by kernel_rfl
theorem cellsL {ps : List (List UInt8)} {w : World} {b off : Nat} (hc : ∀ j u, (flat encL ps)[j]? = some u → w.cell? ⟨b, off + j, none⟩ = some u) (i : Nat) (hi : i < ps.length) : w.cell? ⟨b, off + i, none⟩ = some (.string ⟨ps[i].toArray⟩) := by
  have := cell_flat encL_len hc i hi 0 _ (by omega) rfl
  simpa using this
set_option maxRecDepth 100000 in
set_option maxHeartbeats 1000000 in
theorem specReadList (s : ByteArray) (w : World) (hs : s.size ≤ 1048576) :
    Calls Tryd.prog 27 #[.string s] w fun e w' => (∃ v, e = .returned (.tuple #[v, .bool (readO s.data.toList)]) ∧ w'.ownsRow w.heap.size 2 1 v (readV s.data.toList).length (flat encI (readV s.data.toList))) ∧ Ext w w' := by
  by_cases h0 : s = ⟨#[45]⟩
  · subst h0
    go_enter Tryd.func27, Tryd.ntmps27
    go_wp2
    go_ret2
    exact ⟨⟨_, rfl, own_empty _ _ _ _ (Nat.le_refl _)⟩, Ext.new _ _⟩
  have h1 : ¬ s.data.toList = [45] := fun e => h0 (text_eq e)
  have h1b : (s.toList == [45]) = false := by rw [ByteArray.toList_eq]; simpa using h1
  have hsp := l01Split s 44 w hs
  by_cases h2 : 64 < (splitL 44 s.data.toList).length
  · have HR := hid (readR_long h1 h2)
    go_enter Tryd.func27, Tryd.ntmps27
    go_wp2_with (go_at_call 26; refine hsp.mono ?_; rintro e w1 ⟨⟨v1, rfl, ho1⟩, hE1⟩; obtain ⟨_, _, A1, c1, rfl, hnc1, hcm1, _⟩ := Sl.of_own ho1 (by have := splitL_count 44 s.data.toList; have e : s.data.toList.length = s.size := rfl; unfold maxLen; omega))
    go_ret2
    exact ⟨⟨_, by rw [HR.out.1]; rfl, by rw [HR.out.2]; exact own_nilS _ _ _⟩, hE1⟩
  have h2' : (splitL 44 s.data.toList).length ≤ 64 := by omega
  have HA := hid (fun r hr => readR_all h1 h2 (r := r) hr)
  have HL := hid (splitL_le 44 s.data.toList)
  go_enter Tryd.func27, Tryd.ntmps27
  go_wp2_with (go_at_call 26; refine hsp.mono ?_; rintro e w1 ⟨⟨v1, rfl, ho1⟩, hE1⟩; obtain ⟨_, _, A1, c1, rfl, hnc1, hcm1, hcell1⟩ := Sl.of_own ho1 (by unfold maxLen; omega))
  obtain ⟨ps, HP⟩ : ∃ ps, Hid (ps = splitL 44 s.data.toList) := ⟨_, hid rfl⟩
  rw [← HP.out] at ho1 hcell1 h2' HA HL hnc1
  have hsub : splitL 44 s.data.toList = ps := HP.out.symm
  simp only [hsub]
  have hpos : 0 < ps.length := by rw [HP.out]; exact List.length_pos_iff.2 (splitL_ne 44 _)
  obtain ⟨b, off, rfl, _, hb, hc⟩ := hcell1 hpos
  have HX : Hid (∀ W, Ext w1 W → ∀ k (hk : k < ps.length), W.cell? ⟨b, off + k, none⟩ = some (.string ⟨ps[k].toArray⟩)) := fun W hE k hk => (hE.cell (p := ⟨b, off + k, none⟩) hb).trans (cellsL hc k hk)
  clear hcell1 ho1 hc hsp
  have hsl : s.data.toList.length = s.size := rfl
  go_loopw [5, 6] (fun u i wr => ∃ (k : Nat) (ns : List Int), k ≤ ps.length ∧ ns.length = k ∧ i = .int .i64 k ∧ wr.ownsRow w1.heap.size 2 1 u k (flat encI ns) ∧ Hid (readAll ps = (readAll (ps.drop k)).map (ns ++ ·)) ∧ Ext w1 wr) (fun _ i _ => ps.length - (intOf i).toNat)
  case atStart => exact ⟨0, [], Nat.zero_le _, rfl, rfl, own_empty _ _ _ _ (Nat.le_refl _), hid (by rw [List.drop_zero]; cases readAll ps <;> rfl), Ext.new _ _⟩
  case round =>
    obtain ⟨k, ns, hk, hnk, rfl, hown, HR, hE⟩ := hrel
    by_cases hlt : k < ps.length
    · have hz := hE.size
      have c0 := HX.out wr hE k hlt
      have hpl := HL.out ps[k] (List.getElem_mem hlt)
      have hpz : (⟨ps[k].toArray⟩ : ByteArray).size ≤ 1048576 := by
        have e : (⟨ps[k].toArray⟩ : ByteArray).size = ps[k].length := by simp [ByteArray.size]
        omega
      have HN := hid (l01Number ⟨ps[k].toArray⟩ wr hpz)
      have HD := hid (List.drop_eq_getElem_cons hlt)
      clear hpz
      cases ho : numO ps[k]
      · have HF := hid (HA.out none (by rw [HR.out, HD.out, readAll_no _ (num_none ho)]; rfl))
        rw [ho] at HN
        go_wp2_with fail
        refine HN.out.mono ?_
        rintro e w' ⟨rfl, rfl⟩
        go_wp2
        go_ret2
        exact ⟨⟨_, by rw [HF.out.1]; rfl, by rw [HF.out.2]; exact own_nilS _ _ _⟩, Ext.tr hE1 hE⟩
      · obtain ⟨n, hn⟩ : ∃ n, Hid (n = numR ps[k]) := ⟨_, hid rfl⟩
        cases hin : inV n
        · have HF := hid (HA.out none (by rw [HR.out, HD.out, readAll_out _ (num_some ho) (by rw [← hn.out]; exact hin)]; rfl))
          have hin' : inB n (-1000000000000) 1000000000000 = false := hin
          rw [ho, ← hn.out] at HN
          go_wp2_with fail
          refine HN.out.mono ?_
          rintro e w' ⟨rfl, rfl⟩
          go_wp2_with fail
          refine (cv (l00In _ _ _ _) (vb hin')).mono ?_
          rintro e w' ⟨rfl, rfl⟩
          go_wp2
          go_ret2
          exact ⟨⟨_, by rw [HF.out.1]; rfl, by rw [HF.out.2]; exact own_nilS _ _ _⟩, Ext.tr hE1 hE⟩
        · have HF := hid (show readAll ps = (readAll (ps.drop (k + 1))).map ((ns ++ [n]) ++ ·) by
            rw [HR.out, HD.out, readAll_in _ (num_some ho) (by rw [← hn.out]; exact hin), ← hn.out]
            cases readAll (ps.drop (k + 1)) <;> simp)
          have hin' : inB n (-1000000000000) 1000000000000 = true := hin
          rw [ho, ← hn.out] at HN
          clear HR HD HA HL HP hsub hsl h1b h1 h0 h2 hpl
          go_wp2_with fail
          refine HN.out.mono ?_
          rintro e w' ⟨rfl, rfl⟩
          go_wp2_with fail
          refine (cv (l00In _ _ _ _) (vb hin')).mono ?_
          rintro e w' ⟨rfl, rfl⟩
          go_wp2_with (at_builtin; refine wp_append1 wr rfl (.tmp 39) (.tmp 41) _ rfl w1.heap.size 2 1 8 _ Tryd.underlying38 infoI rfl (by omega) (by omega) _ _ _ hown rfl [.int .i64 n] rfl (by simp [Value.oneCell']) _ rfl rfl (by omega) hz ?_; intro v' w' ho' hb')
          go_roundw
          case rel => exact ⟨k + 1, ns ++ [n], by omega, by simp; omega, by go_num, by rw [flat_snoc]; exact ho', HF, hE.trans hb'⟩
          case measure => simp [intOf]; omega
    · obtain rfl : k = ps.length := by omega
      have HF := hid (HA.out (some ns) (by rw [HR.out, List.drop_length, readAll]; simp))
      go_wp2
      go_ret2
      refine ⟨⟨_, by rw [HF.out.1]; rfl, ?_⟩, Ext.tr hE1 hE⟩
      rw [HF.out.2]
      show wr.ownsRow _ _ _ _ ns.length (flat encI ns)
      rw [hnk]
      exact own_base hown hE1.size
end Go.Proofs.YtopjccbjdcoanaaDoor
