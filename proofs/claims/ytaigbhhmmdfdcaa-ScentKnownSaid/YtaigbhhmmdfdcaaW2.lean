/- The functions that say whether a string is a name: wax.Name and stearinref01.Name: both are nameB. -/
import Derived.Test.YtaigbhhmmdfdcaaW1
namespace Go.Proofs.Ytaigbhhmmdfdcaa
open Go.RowKit

theorem nameL_drop (s : ByteArray) (pos : Nat) (h : pos < s.size) (last : Int) : nameL last (s.data.toList.drop pos) = (!badN last (s[pos]'h).toNat && nameL (s[pos]'h).toNat (s.data.toList.drop (pos + 1))) := by
  rw [List.drop_eq_getElem_cons (by simpa using h), nameL]
  rfl
theorem badN_t1 {l c : Int} (h : ¬ c = 45) (h2 : c < 97 ∨ 122 < c) : badN l c = true := by
  unfold badN; simp; omega
theorem badN_t2 {l c : Int} (h : c = 45) (h2 : (l == 45) = true) : badN l c = true := by
  unfold badN; simp_all
theorem badN_f1 {l c : Int} (_h : c = 45) (h2 : (l == 45) = false) : badN l c = false := by
  unfold badN; simp_all
theorem badN_f2 {l c : Int} (_h : ¬ c = 45) (h2 : 97 ≤ c) (h3 : c ≤ 122) : badN l c = false := by
  unfold badN; simp; omega
theorem badN_high (last c : Int) (h : 128 ≤ c) : badN last c = true := by
  unfold badN; simp; omega

set_option maxHeartbeats 2000000 in
theorem name_any (s : ByteArray) (w : World) (hs : s.size ≤ 1000000000000000) :
    Calls Try.prog 56 #[.string s] w fun e w' => e = .returned (.bool (nameB s)) ∧ Below w.heap.size w w' := by
  go_enter Try.func56, Try.ntmps56
  go_wp2
  go_loopw [3] (fun la wr => ∃ (pos : Nat) (l : Int), wr = w.iter s pos ∧ la = .int .i32 l ∧ pos ≤ s.size ∧ 0 ≤ l ∧ l ≤ 127 ∧ nameL 45 s.data.toList = nameL l (s.data.toList.drop pos)) (fun _ wr => s.size - wr.iterPos w.heap.size)
  case atStart => exact ⟨0, 45, rfl, rfl, by omega, by omega, by omega, by simp⟩
  case round =>
    obtain ⟨pos, l, rfl, rfl, hp, hl0, hl1, hn⟩ := hrel
    have HN := Lib.hid hn
    clear hn
    by_cases hlt : pos < s.size
    · have HD := Lib.hid (nameL_drop s pos hlt l)
      by_cases ha : (s[pos]'hlt).toNat < 128
      · have hnx := fun ty => run_next_ascii (P := Try.prog) w s pos ty hlt ha
        generalize (s[pos]'hlt).toNat = c at *
        obtain ⟨r, hr⟩ : ∃ r, badN l c = r := ⟨_, rfl⟩
        have HR := Lib.hid hr
        unfold badN at hr
        have hW : Hid (∀ p, Below w.heap.size w (w.iter s p)) := fun p => (Below.refl _ _).alloc (Nat.le_refl _) _
        clear HR hr
        go_wp2
        all_goals first
          | (have hb : badN l c = true := (by first | exact badN_t2 ‹_› ‹_› | exact badN_t1 ‹_› (.inl ‹_›) | exact badN_t1 ‹_› (.inr ‹_›))
             go_ret
             exact ⟨ret_bool (by unfold nameB; rw [HN.out, HD.out, hb]; rfl), hW.out _⟩)
          | (have hb : badN l c = false := (by first | exact badN_f1 ‹_› ‹_› | exact badN_f2 ‹_› ‹_› ‹_›)
             go_roundw
             case rel => exact ⟨pos + 1, _, rfl, rfl, by omega, by omega, by omega, by rw [HN.out, HD.out, hb]; simp [*]⟩
             case measure => simp; omega)
      · have hnx := fun ty => run_next_any (P := Try.prog) w s pos ty hlt
        have hhi := (decode_high s pos hlt (by omega)).1
        have hle := decode_le s pos
        have hb : badN l (s[pos]'hlt).toNat = true := badN_high _ _ (by omega)
        have HF : Hid (nameB s = false) := by unfold Hid nameB; rw [HN.out, HD.out, hb]; rfl
        have hW : Hid (∀ p, Below w.heap.size w (w.iter s p)) := fun p => (Below.refl _ _).alloc (Nat.le_refl _) _
        generalize (Utf8.decode s pos).1 = c at *
        generalize (Utf8.decode s pos).2 = d at *
        clear HD HN hb
        go_wp2
        all_goals
          go_ret
          exact ⟨ret_bool HF.out.symm, hW.out _⟩
    · have : pos = s.size := by omega
      subst this
      have HF : Hid (nameB s = ((l != 45) && decide (s.size ≤ 20))) := by unfold Hid nameB; rw [HN.out, List.drop_of_length_le (by simp)]; rfl
      have hW : Hid (∀ p, Below w.heap.size w (w.iter s p)) := fun p => (Below.refl _ _).alloc (Nat.le_refl _) _
      have hnx := fun ty => run_next_end (P := Try.prog) w s s.size ty (by omega)
      clear HN
      have hd : decide ((s.size : Int) ≤ 20) = decide (s.size ≤ 20) := by rw [decide_eq_decide]; omega
      have HDD := Lib.hid hd
      clear hd
      go_wp2
      all_goals
        go_ret
        exact ⟨ret_bool (by rw [HF.out, ← HDD.out]; try simp [*]), hW.out _⟩

theorem name_r (r : Bool) (s : ByteArray) (w : World) (hs : s.size ≤ 1000000000000000) (hr : nameB s = r) :
    Calls Try.prog 56 #[.string s] w fun e w' => e = .returned (.bool r) ∧ Below w.heap.size w w' := by
  subst hr; exact name_any s w hs

def inB (n lo hi : Int) : Bool := decide (lo ≤ n) && decide (n ≤ hi)
theorem inB_out (n lo hi : Int) : inB n lo hi = !outOne lo hi n := by
  unfold inB outOne
  rw [Bool.eq_iff_iff]
  simp
theorem in1_r (r : Bool) (n lo hi : Int) (w : World) (hr : inB n lo hi = r) : Calls Try.prog 106 #[.int .i64 n, .int .i64 lo, .int .i64 hi] w fun e w' => e = .returned (.bool r) ∧ w = w' := by
  subst hr
  unfold inB
  go_enter Try.func106, Try.ntmps106
  by_cases h : lo ≤ n
  · have h1 : decide (lo ≤ n) = true := by simpa using h
    go_wp2
    all_goals (go_ret; exact ⟨by simp [h], rfl⟩)
  · have h1 : decide (lo ≤ n) = false := by simpa using h
    go_wp2
    all_goals (go_ret; exact ⟨by simp, rfl⟩)

theorem in_r (r : Bool) (n lo hi : Int) (w : World) (hr : inB n lo hi = r) : Calls Try.prog 60 #[.int .i64 n, .int .i64 lo, .int .i64 hi] w fun e w' => e = .returned (.bool r) ∧ w = w' := by
  subst hr
  unfold inB
  go_enter Try.func60, Try.ntmps60
  by_cases h : lo ≤ n
  · have h1 : decide (lo ≤ n) = true := by simpa using h
    go_wp2
    all_goals (go_ret; exact ⟨by simp [h], rfl⟩)
  · have h1 : decide (lo ≤ n) = false := by simpa using h
    go_wp2
    all_goals (go_ret; exact ⟨by simp, rfl⟩)

/-- A string whose last letter is a dash is no name. -/
theorem nameL_last : ∀ (l : List UInt8) (a : Int) (_ : l ≠ []) (_ : l.getLastD 0 = 45), nameL a l = false
  | [], _, h, _ => absurd rfl h
  | [c], a, _, h => by
    have : c = 45 := by simpa using h
    subst this
    simp [nameL]
  | c :: d :: l, a, _, h => by
    rw [nameL, nameL_last (d :: l) _ (by simp) (by simpa using h)]
    simp
theorem nameB_empty (s : ByteArray) (h : s.size = 0) : nameB s = false := by
  unfold nameB
  have : s.data.toList = [] := by
    apply List.eq_nil_of_length_eq_zero
    simpa using h
  rw [this]; rfl
theorem nameB_long (s : ByteArray) (h : 20 < s.size) : nameB s = false := by
  unfold nameB; simp; omega
theorem nameB_first (s : ByteArray) (h : 0 < s.size) (h0 : (s[0]'h).toNat = 45) : nameB s = false := by
  have := nameL_drop s 0 h 45
  rw [h0] at this
  unfold nameB
  rw [List.drop_zero] at this
  rw [this]; rfl
theorem nameB_last (s : ByteArray) (h : 0 < s.size) (h0 : (s[s.size - 1]'(by omega)).toNat = 45) : nameB s = false := by
  unfold nameB
  rw [nameL_last]
  · rfl
  · intro hh
    have : s.data.toList.length = s.size := by simp
    rw [hh] at this
    simp at this; omega
  · have : s.data.toList.getLastD 0 = s[s.size - 1]'(by omega) := by
      rw [List.getLastD_eq_getLast?, List.getLast?_eq_getElem?]
      have : s.data.toList.length = s.size := by simp
      rw [this, List.getElem?_eq_getElem (by omega)]
      rfl
    rw [this]
    exact UInt8.toNat_inj.1 h0

/-- The letter before a place (a dash: before the first one). -/
def prevN (s : ByteArray) (k : Nat) : Int := if k = 0 then 45 else ((s.data.toList.getD (k - 1) 0).toNat : Int)
theorem prevN_pos (s : ByteArray) (k : Nat) (h : 0 < k) (hk : k - 1 < s.size) : prevN s k = ((s[k - 1]'hk).toNat : Int) := by
  unfold prevN
  rw [if_neg (by omega)]
  have : s.data.toList.getD (k - 1) 0 = s[k - 1]'hk := by simp [List.getD, List.getElem?_eq_getElem (show k - 1 < s.data.toList.length by simpa using hk)]; rfl
  rw [this]
theorem prevN_succ (s : ByteArray) (k : Nat) (hk : k < s.size) : prevN s (k + 1) = ((s[k]'hk).toNat : Int) := prevN_pos s (k + 1) (by omega) hk

set_option maxHeartbeats 4000000 in
/-- stearinref01.Name -/
theorem refName_any (s : ByteArray) (w : World) (hs : s.size ≤ 1000000000000000) :
    Calls Try.prog 93 #[.string s] w fun e w' => e = .returned (.bool (nameB s)) ∧ w = w' := by
  by_cases h0 : 1 ≤ s.size
  · by_cases h20 : s.size ≤ 20
    · have HI : Hid (inB s.size 1 20 = true) := by unfold Hid inB; simp; omega
      have HA := Lib.hid (nameB_first s h0)
      have HB := Lib.hid (nameB_last s h0)
      have hfirst := h0
      by_cases hf : (s[0]'h0).toNat = 45
      · have HF := Lib.hid (HA.out hf)
        clear HA HB
        go_enter Try.func93, Try.ntmps93
        go_wp2_with (go_at_call 106; refine (in1_r _ _ _ _ _ HI.out).mono ?_; rintro e w' ⟨rfl, rfl⟩)
        go_ret
        exact ⟨ret_bool HF.out.symm, rfl⟩
      · have hf1 : (((s[0]'h0).toNat : Int) == 45) = false := by simp; omega
        by_cases hg : (s[s.size - 1]'(by omega)).toNat = 45
        · have HF := Lib.hid (HB.out hg)
          have hg1 : (((s[s.size - 1]'(by omega)).toNat : Int) == 45) = true := by simp; omega
          clear HA HB hf hg
          go_enter Try.func93, Try.ntmps93
          go_wp2_with (go_at_call 106; refine (in1_r _ _ _ _ _ HI.out).mono ?_; rintro e w' ⟨rfl, rfl⟩)
          go_ret
          exact ⟨ret_bool HF.out.symm, rfl⟩
        · have hg1 : (((s[s.size - 1]'(by omega)).toNat : Int) == 45) = false := by simp; omega
          have HG := Lib.hid hg
          have HFF := Lib.hid hf
          clear HA HB hf hg
          go_enter Try.func93, Try.ntmps93
          go_wp2_with (go_at_call 106; refine (in1_r _ _ _ _ _ HI.out).mono ?_; rintro e w' ⟨rfl, rfl⟩)
          go_loop [3] (fun i => ∃ k : Nat, k ≤ s.size ∧ i = .int .i64 k ∧ nameL 45 s.data.toList = nameL (prevN s k) (s.data.toList.drop k)) (fun i => s.size - (intOf i).toNat)
          case atStart => exact ⟨0, by omega, rfl, by simp [prevN]⟩
          case round =>
            obtain ⟨k, hk, rfl, hn⟩ := hrel
            have HN := Lib.hid hn
            clear hn hf1 hg1
            by_cases hlt : k < s.size
            · have HD := Lib.hid (nameL_drop s k hlt (prevN s k))
              have HNEXT : Hid (prevN s (k + 1) = ((s[k]'hlt).toNat : Int)) := prevN_succ s k hlt
              have hcr : (s[k]'hlt).toNat < 256 := (s[k]'hlt).toNat_lt
              by_cases hc : (s[k]'hlt).toNat = 45
              · have hc1 : (((s[k]'hlt).toNat : Int) != 45) = false := by simp; omega
                have hc2 : (((s[k]'hlt).toNat : Int) == 45) = true := by simp; omega
                have hk0 : 0 < k := by
                  rcases Nat.eq_zero_or_pos k with rfl | h
                  · exact absurd hc HFF.out
                  · exact h
                have HP : Hid (prevN s k = ((s[k - 1]'(by omega)).toNat : Int)) := prevN_pos s k hk0 (by omega)
                have HC := Lib.hid hc
                clear hc
                by_cases hp : (s[k - 1]'(by omega)).toNat = 45
                · have hp1 : (((s[k - 1]'(by omega)).toNat : Int) == 45) = true := by simp; omega
                  have HF : Hid (nameB s = false) := by unfold Hid nameB; rw [HN.out, HD.out, HC.out, HP.out, hp]; rfl
                  clear hp
                  go_wp2_with fail
                  go_ret
                  exact ⟨ret_bool HF.out.symm, rfl⟩
                · have hp1 : (((s[k - 1]'(by omega)).toNat : Int) == 45) = false := by simp; omega
                  have HF : Hid (nameL 45 s.data.toList = nameL (prevN s (k + 1)) (s.data.toList.drop (k + 1))) := by
                    unfold Hid; rw [HN.out, HD.out, HNEXT.out, HC.out, badN_f1 (l := prevN s k) (c := ((45 : Nat) : Int)) rfl (by rw [HP.out]; exact hp1)]; rfl
                  clear hp
                  go_wp2_with fail
                  go_round
                  case rel => exact ⟨k + 1, by omega, by go_num, HF.out⟩
                  case measure => simp [intOf]; omega
              · have hc1 : (((s[k]'hlt).toNat : Int) != 45) = true := by simp; omega
                have hc2 : (((s[k]'hlt).toNat : Int) == 45) = false := by simp; omega
                by_cases hz : 97 ≤ (s[k]'hlt).toNat ∧ (s[k]'hlt).toNat ≤ 122
                · have HI2 : Hid (inB (s[k]'hlt).toNat 97 122 = true) := by unfold Hid inB; simp; omega
                  have HF : Hid (nameL 45 s.data.toList = nameL (prevN s (k + 1)) (s.data.toList.drop (k + 1))) := by
                    unfold Hid; rw [HN.out, HD.out, HNEXT.out, badN_f2 (by omega) (by omega) (by omega)]; rfl
                  clear hc hz
                  by_cases hk0 : 0 < k
                  all_goals
                    go_wp2_with (go_at_call 106; refine (in1_r _ _ _ _ _ HI2.out).mono ?_; rintro e w' ⟨rfl, rfl⟩)
                    go_round
                    case rel => exact ⟨k + 1, by omega, by go_num, HF.out⟩
                    case measure => simp [intOf]; omega
                · have HI2 : Hid (inB (s[k]'hlt).toNat 97 122 = false) := by unfold Hid inB; simp; omega
                  have HF : Hid (nameB s = false) := by unfold Hid nameB; rw [HN.out, HD.out, badN_t1 (by omega) (by omega)]; rfl
                  clear hc hz
                  go_wp2_with (go_at_call 106; refine (in1_r _ _ _ _ _ HI2.out).mono ?_; rintro e w' ⟨rfl, rfl⟩)
                  go_ret
                  exact ⟨ret_bool HF.out.symm, rfl⟩
            · have : k = s.size := by omega
              subst this
              have HF : Hid (nameB s = true) := by
                unfold Hid nameB; rw [HN.out, List.drop_of_length_le (by simp), prevN_pos s _ (by omega) (by omega)]
                have := HG.out
                simp [nameL, h20]; omega
              clear HG
              go_wp2_with fail
              go_ret
              exact ⟨ret_bool HF.out.symm, rfl⟩
    · have HF := Lib.hid (nameB_long s (by omega))
      have HI : Hid (inB s.size 1 20 = false) := by unfold Hid inB; simp; omega
      go_enter Try.func93, Try.ntmps93
      go_wp2_with (go_at_call 106; refine (in1_r _ _ _ _ _ HI.out).mono ?_; rintro e w' ⟨rfl, rfl⟩)
      go_ret
      exact ⟨ret_bool HF.out.symm, rfl⟩
  · have HF := Lib.hid (nameB_empty s (by omega))
    have HI : Hid (inB s.size 1 20 = false) := by unfold Hid inB; simp; omega
    go_enter Try.func93, Try.ntmps93
    go_wp2_with (go_at_call 106; refine (in1_r _ _ _ _ _ HI.out).mono ?_; rintro e w' ⟨rfl, rfl⟩)
    go_ret
    exact ⟨ret_bool HF.out.symm, rfl⟩

theorem refName_r (r : Bool) (s : ByteArray) (w : World) (hs : s.size ≤ 1000000000000000) (hr : nameB s = r) :
    Calls Try.prog 93 #[.string s] w fun e w' => e = .returned (.bool r) ∧ w = w' := by
  subst hr; exact refName_any s w hs

/-- The slice value reads as these strings. -/
def rdStr : Rd ByteArray where
  sz := 1
  rd _ w b o x := w.cell? ⟨b, o, none⟩ = some (.string x)
  below hbb hb h := (hb.cell (p := ⟨_, _, none⟩) hbb).trans h
  mono _ h := h
def namedE (before : List ByteArray) (n : ByteArray) : Int := if nameB n = false then 6 else if before.any (sameN n) then 5 else 0
instance : Inhabited ByteArray := ⟨ByteArray.empty⟩
set_option maxHeartbeats 2000000 in
/-- stearinref01.Named -/
theorem named_any (l : List ByteArray) (v : Value) (n : ByteArray) (w : World) (hn : n.size ≤ 1000000000000000) (hv : SlIn rdStr w.heap.size w v l) :
    Calls Try.prog 61 #[.string n, v] w fun e w' => e = .returned (.int .i64 (namedE l n)) ∧ w = w' := by
  have HV := Lib.hid hv
  obtain ⟨a, c, rfl, hl, hlc, -⟩ := hv
  have hnm := refName_any n w hn
  have HE : Hid (namedE l n = if nameB n = false then 6 else if l.any (sameN n) then 5 else 0) := rfl
  generalize namedE l n = E at *
  obtain ⟨r, hr⟩ : ∃ r, nameB n = r := ⟨_, rfl⟩
  rw [hr] at HE hnm
  have HN := Lib.hid hnm
  clear hnm hr
  cases r
  · go_enter Try.func61, Try.ntmps61
    go_wp2_with fail
    refine HN.out.mono ?_
    rintro e w' ⟨rfl, rfl⟩
    go_wp2_with fail
    go_ret
    exact ⟨ret_int (by rw [HE.out]; rfl), rfl⟩
  · go_enter Try.func61, Try.ntmps61
    go_wp2_with fail
    refine HN.out.mono ?_
    rintro e w' ⟨rfl, rfl⟩
    go_wp2_with fail
    go_loop [5] (fun i => ∃ k : Nat, k ≤ l.length ∧ i = .int .i64 k ∧ l.any (sameN n) = (l.drop k).any (sameN n)) (fun i => l.length - (intOf i).toNat)
    case atStart => exact ⟨0, by omega, rfl, by simp⟩
    case round =>
      obtain ⟨k, hk, rfl, hf⟩ := hrel
      have HF := Lib.hid hf
      clear hf
      by_cases hkl : k < l.length
      · obtain ⟨b', o, c', hvv, -, hbB, hc1⟩ := HV.out.at hkl
        cases hvv
        simp only [rdStr, Nat.mul_one] at hc1
        have HD : Hid ((l.drop k).any (sameN n) = (sameN n (l.getD k default) || (l.drop (k + 1)).any (sameN n))) := by
          unfold Hid
          rw [List.drop_eq_getElem_cons hkl, List.any_cons]
          simp [List.getD, hkl]
        generalize l.getD k default = y at *
        obtain ⟨r, hr⟩ : ∃ r, (y.toList == n.toList) = r := ⟨_, rfl⟩
        have HR : Hid (sameN n y = r) := hr
        cases r
        · go_wp2_with fail
          go_round
          case rel => exact ⟨k + 1, by omega, by go_num, by rw [HF.out, HD.out, HR.out]; simp⟩
          case measure => simp [intOf]; omega
        · go_wp2_with fail
          go_ret
          exact ⟨ret_int (by rw [HE.out, HF.out, HD.out, HR.out]; simp), rfl⟩
      · have : k = l.length := by omega
        go_wp2_with fail
        go_ret
        exact ⟨ret_int (by rw [HE.out, HF.out, this]; simp), rfl⟩
end Go.Proofs.Ytaigbhhmmdfdcaa
