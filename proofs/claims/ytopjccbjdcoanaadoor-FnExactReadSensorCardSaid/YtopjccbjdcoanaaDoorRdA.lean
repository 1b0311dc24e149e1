/- The program's reading of one number: strconv.ParseInt's roads, ReadDecimal. Conditions: the variables that the library's functions read are as laid; the text has at most 2^20 bytes. -/
import Derived.Test.YtopjccbjdcoanaaDoorRdR
namespace Go.Proofs.YtopjccbjdcoanaaDoor
set_option linter.unusedVariables false
open Go.RowKit
def errP (w : World) (n : String) : Prop := ∃ t p, w.var? Tryd.prog n = some #[.iface t p]
def cpuP (w : World) : Prop := ∃ m : Int, w.cell? ⟨0, 0, none⟩ = some (.int .i64 m)
def envP (w : World) : Prop := tabP w ∧ errP w "strconv.ErrSyntax" ∧ errP w "strconv.ErrRange" ∧ cpuP w
theorem errP.ext {w w' : World} {n : String} {g : Nat} (hg : Tryd.prog.globalNamed n = some g) (h : errP w n) (hb : Ext w w') : errP w' n := by
  obtain ⟨t, p, h⟩ := h
  refine ⟨t, p, ?_⟩
  unfold World.var? at h ⊢
  rw [hg] at h ⊢
  simp only [Option.bind_some] at h ⊢
  have hlt : g < w.heap.size := by
    rcases Nat.lt_or_ge g w.heap.size with h' | h'
    · exact h'
    · rw [Array.getElem?_eq_none h'] at h; cases h
  rw [hb.block g hlt]
  exact h
theorem cell_lt {w : World} {b o : Nat} {v : Value} (h : w.cell? ⟨b, o, none⟩ = some v) : b < w.heap.size := by
  rcases Nat.lt_or_ge b w.heap.size with h' | h'
  · exact h'
  · unfold World.cell? at h; simp only [Array.getElem?_eq_none h'] at h; simp at h
theorem cpuP.ext {w w' : World} (h : cpuP w) (hb : Ext w w') : cpuP w' := by
  obtain ⟨m, h⟩ := h
  exact ⟨m, (hb.cell (p := ⟨0, 0, none⟩) (cell_lt h)).trans h⟩
theorem envP.ext {w w' : World} (h : envP w) (hb : Ext w w') : envP w' :=
  ⟨tab_ext (by kernel_rfl : Tryd.prog.globalNamed "internal/strconv.uint64pow10" = some 1) h.1 hb,
   h.2.1.ext (by kernel_rfl : Tryd.prog.globalNamed "strconv.ErrSyntax" = some 2) hb,
   h.2.2.1.ext (by kernel_rfl : Tryd.prog.globalNamed "strconv.ErrRange" = some 3) hb, h.2.2.2.ext hb⟩
theorem parseInt (s : ByteArray) (w : World) (hs : s.size ≤ 1048576) (he : envP w) :
    Calls Tryd.prog 46 #[.string s, .int .i64 10, .int .i64 64] w fun e w' => (∃ (n : Int) (v : Value), e = .returned (.tuple #[.int .i64 n, v]) ∧ ((v = .nilIface ∧ Lib.parseIntB 64 s.data.toList = .ok n) ∨ ((∃ t p, v = .iface t p) ∧ ∀ m, Lib.parseIntB 64 s.data.toList ≠ .ok m))) ∧ Ext w w' := by
  cases hp : Lib.parseIntB 64 s.data.toList
  · rename_i n
    refine (Tryd.strconv_ParseInt_10_at64_ok s (by omega) n hp w).mono ?_
    rintro e w' ⟨rfl, hw⟩
    refine ⟨⟨n, _, rfl, .inl ⟨rfl, rfl⟩⟩, ?_⟩
    rcases hw with rfl | ⟨t, rfl⟩
    · exact Below.refl _ _
    · exact Lib.bytesWorld_below _ _ _
  · obtain ⟨t, p, hv⟩ := he.2.1
    have c := Any.strconv_ParseInt_10_at64_syntax_var Tryd.laysC174 s (by omega) hp t p w hv
    refine Calls.mono (P := Tryd.prog) (f := 46) c ?_
    rintro e w' ⟨N, rfl, _, _, hb⟩
    exact ⟨⟨_, _, rfl, .inr ⟨⟨_, _, rfl⟩, fun m hm => by cases hm⟩⟩, hb⟩
  · obtain ⟨t, p, hv⟩ := he.2.2.1
    have c := Any.strconv_ParseInt_10_at64_range_var Tryd.laysC174 s (by omega) hp t p w hv
    refine Calls.mono (P := Tryd.prog) (f := 46) c ?_
    rintro e w' ⟨N, rfl, _, _, hb⟩
    exact ⟨⟨_, _, rfl, .inr ⟨⟨_, _, rfl⟩, fun m hm => by cases hm⟩⟩, hb⟩
theorem decimalW (n : Int) (w : World) (h0 : -9223372036854775808 ≤ n) (h1 : n ≤ 9223372036854775807) (ht : tabP w) :
    Calls Tryd.prog 34 #[.int .i64 n] w fun e w' => e = .returned (.string (decT n)) ∧ Ext w w' := by
  have HF := hid (Tryd.strconv_FormatInt_10 n h0 h1 w ht)
  clear ht
  go_enter Tryd.func34, Tryd.ntmps34
  go_wp2_with (go_at_call 40; refine HF.out.mono ?_; rintro e w' ⟨rfl, k, os, rfl⟩)
  go_ret
  exact ⟨rfl, by unfold Ext; exact Lib.below_grow _ _ (Nat.le_refl _) _ _⟩
/-- numbers that a sensor may bear -/
def numOk (n : Int) : Prop := 0 ≤ n ∧ n ≤ 1000000000000
theorem parse_num {n : Int} (h : numOk n) : Lib.parseIntB 64 (Lib.itoa n) = .ok n := by
  obtain ⟨m, rfl⟩ : ∃ m : Nat, n = m := ⟨n.toNat, by have := h.1; omega⟩
  rw [Lib.itoa_nonneg]; exact parse_dec m (by have := h.2; omega)
theorem trim_num {n : Int} (h : numOk n) : (Lib.trimPrefix (Lib.itoa n) [45]).length ≤ 18 := by
  have := Lib.trimPrefix_le (Lib.itoa n) [45]
  have h2 := dec_len n ⟨by have := h.1; omega, h.2⟩
  omega
def decPost (s : ByteArray) (e : Ending) : Prop := ∃ (n : Int) (b : Bool), e = .returned (.tuple #[.int .i64 n, .bool b]) ∧ (b = true → Lib.itoa n = s.data.toList) ∧ (∀ m, numOk m → s.data.toList = Lib.itoa m → b = true)
theorem decPost_no {s : ByteArray} (h : ∀ m, numOk m → s.data.toList = Lib.itoa m → False) : decPost s (.returned (.tuple #[.int .i64 0, .bool false])) := ⟨0, false, rfl, fun e => (by cases e), fun m hm e => (h m hm e).elim⟩
theorem decPost_yes {s : ByteArray} {n : Int} (h : Lib.itoa n = s.data.toList) : decPost s (.returned (.tuple #[.int .i64 n, .bool true])) := ⟨n, true, rfl, fun _ => h, fun _ _ _ => rfl⟩
theorem str_ne {s t : ByteArray} (h : ¬ s = t) : (s.toList == t.toList) = false := by
  rw [ByteArray.toList_eq, ByteArray.toList_eq, beq_eq_false_iff_ne]
  exact fun e => h (text_eq e)
set_option maxRecDepth 100000 in
set_option maxHeartbeats 1000000 in
theorem readDecimal (s : ByteArray) (w : World) (hs : s.size ≤ 1048576) (he : envP w) :
    Calls Tryd.prog 39 #[.string s] w fun e w' => decPost s e ∧ Ext w w' := by
  have HP := hid (parseInt s w hs he)
  have HE := hid (fun W (hW : Ext w W) => (he.ext hW).1)
  clear he
  go_enter Tryd.func39, Tryd.ntmps39
  go_wp2_with fail
  refine HP.out.mono ?_
  rintro e w1 ⟨⟨n, v, rfl, hv⟩, hE1⟩
  clear HP
  rcases hv with ⟨rfl, hp⟩ | ⟨⟨t, p, rfl⟩, hno⟩
  · have hbd := Lib.parseIntB_bounds hp
    have e63 : (2 : Nat) ^ (64 - 1) = 9223372036854775808 := by decide
    rw [e63] at hbd
    clear e63
    have HPN := hid hp
    clear hp
    by_cases h18 : 18 < (Lib.trimPrefix s.data.toList [45]).length
    · have HQ := hid (decPost_no (s := s) (fun m hm e => by have := trim_num hm; rw [← e] at this; omega))
      have hz : (⟨(Lib.trimPrefix s.data.toList [45]).toArray⟩ : ByteArray).size = (Lib.trimPrefix s.data.toList [45]).length := by simp [ByteArray.size]
      have hzi : (18 : Int) < ((⟨(Lib.trimPrefix s.data.toList [45]).toArray⟩ : ByteArray).size : Int) := by omega
      go_wp2_with (go_at_call 47; refine (Tryd.strings_TrimPrefix s ⟨#[45]⟩ _).mono ?_; rintro e w2 ⟨rfl, rfl⟩)
      go_ret2
      exact ⟨HQ.out, hE1⟩
    · have hz : (⟨(Lib.trimPrefix s.data.toList [45]).toArray⟩ : ByteArray).size = (Lib.trimPrefix s.data.toList [45]).length := by simp [ByteArray.size]
      have hzi : ¬ (18 : Int) < ((Lib.trimPrefix s.data.toList [45]).length : Int) := by omega
      have HD := hid (decimalW n w1 (by omega) (by omega) (HE.out w1 hE1))
      by_cases hd : decT n = s
      · have HQ := hid (decPost_yes (s := s) (n := n) (by rw [← hd]; rfl))
        rw [hd] at HD
        clear hd
        go_wp2_with (first | (go_at_call 47; refine (Tryd.strings_TrimPrefix s ⟨#[45]⟩ _).mono ?_; rintro e w2 ⟨rfl, rfl⟩) | (go_at_call 34; refine HD.out.mono ?_; rintro e w3 ⟨rfl, hE3⟩))
        go_ret2
        exact ⟨HQ.out, Ext.tr hE1 hE3⟩
      · have HQ := hid (decPost_no (s := s) (fun m hm e => hd (by
          have hp := parse_num hm
          rw [← e, HPN.out] at hp
          injection hp with hp
          subst hp
          exact text_eq e.symm)))
        have hne := str_ne hd
        clear hd
        go_wp2_with (first | (go_at_call 47; refine (Tryd.strings_TrimPrefix s ⟨#[45]⟩ _).mono ?_; rintro e w2 ⟨rfl, rfl⟩) | (go_at_call 34; refine HD.out.mono ?_; rintro e w3 ⟨rfl, hE3⟩))
        go_ret2
        exact ⟨HQ.out, Ext.tr hE1 hE3⟩
  · have HQ := hid (decPost_no (s := s) (fun m hm e => hno m (by rw [e]; exact parse_num hm)))
    go_wp2
    go_ret2
    exact ⟨HQ.out, hE1⟩
end Go.Proofs.YtopjccbjdcoanaaDoor
