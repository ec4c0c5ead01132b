/- Walks: names, ranges, things, Check, batches poured. -/
import Derived.Test.YtpkggjobdmchlaaGreatDoorRows
import Derived.StillTailTactics
import Derived.Great.BuildSlice
import Derived.OwnWalk
import Derived.Deep.AppendLies
import Derived.BigQuiet
import Derived.Test.YtpkggjobdmchlaaGreatDoorK1
namespace Go.Proofs.YtpkggjobdmchlaaGreatDoor
open Go.RowKit
theorem outB_cons (lo hi : Int) (l : List Int) (k : Nat) (h : k < l.length) : outB lo hi (l.drop k) = (outOne lo hi (l.getD k 0) || outB lo hi (l.drop (k + 1))) := by
  unfold outB
  rw [List.drop_eq_getElem_cons h, List.any_cons]
  simp [List.getD, h]
end Go.Proofs.YtpkggjobdmchlaaGreatDoor
namespace Go.Proofs.YtpkggjobdmchlaaGreatDoor
open Go.RowKit
theorem nameL_drop (s : ByteArray) (pos : Nat) (h : pos < s.size) (last : Int) : nameL last (s.data.toList.drop pos) = (!badN last (s[pos]'h).toNat && nameL (s[pos]'h).toNat (s.data.toList.drop (pos + 1))) := by
  rw [List.drop_eq_getElem_cons (by simpa using h), nameL]
  rfl
theorem badN_t1 {l c : Int} (h : ¬ c = 45) (h2 : c < 97 ∨ 122 < c) : badN l c = true := by
  unfold badN; simp; omega
theorem badN_t2 {l c : Int} (h : c = 45) (h2 : (l == 45) = true) : badN l c = true := by
  unfold badN; simp_all
theorem badN_f1 {l c : Int} (_h : c = 45) (h2 : (l == 45) = false) : badN l c = false := by
  unfold badN; simp_all
theorem badN_f2 {l c : Int} (_h : ¬ c = 45) (h2 : 97 ≤ c) (h3 : c ≤ 122) : badN l c = false := by
  unfold badN; simp; omega
theorem badN_high (last c : Int) (h : 128 ≤ c) : badN last c = true := by
  unfold badN; simp; omega
set_option maxHeartbeats 2000000 in
theorem name_any (s : ByteArray) (w : World) (hs : s.size ≤ 1000000000000000) :
    Calls Tryz.prog 117 #[.string s] w fun e w' => e = .returned (.bool (nameB s)) ∧ Below w.heap.size w w' := by
  go_enter Tryz.func117, Tryz.ntmps117
  go_wp2
  go_loopw [3] (fun la wr => ∃ (pos : Nat) (l : Int), wr = w.iter s pos ∧ la = .int .i32 l ∧ pos ≤ s.size ∧ 0 ≤ l ∧ l ≤ 127 ∧ nameL 45 s.data.toList = nameL l (s.data.toList.drop pos)) (fun _ wr => s.size - wr.iterPos w.heap.size)
  case atStart => exact ⟨0, 45, rfl, rfl, by omega, by omega, by omega, by simp⟩
  case round =>
    obtain ⟨pos, l, rfl, rfl, hp, hl0, hl1, hn⟩ := hrel
    have HN := Lib.hid hn
    clear hn
    by_cases hlt : pos < s.size
    · have HD := Lib.hid (nameL_drop s pos hlt l)
      by_cases ha : (s[pos]'hlt).toNat < 128
      · have hnx := fun ty => run_next_ascii (P := Tryz.prog) w s pos ty hlt ha
        generalize (s[pos]'hlt).toNat = c at *
        obtain ⟨r, hr⟩ : ∃ r, badN l c = r := ⟨_, rfl⟩
        have HR := Lib.hid hr
        unfold badN at hr
        have hW : Hid (∀ p, Below w.heap.size w (w.iter s p)) := fun p => (Below.refl _ _).alloc (Nat.le_refl _) _
        clear HR hr
        go_wp2
        all_goals first
          | (have hb : badN l c = true := (by first | exact badN_t2 ‹_› ‹_› | exact badN_t1 ‹_› (.inl ‹_›) | exact badN_t1 ‹_› (.inr ‹_›))
             go_ret
             exact ⟨ret_bool (by unfold nameB; rw [HN.out, HD.out, hb]; rfl), hW.out _⟩)
          | (have hb : badN l c = false := (by first | exact badN_f1 ‹_› ‹_› | exact badN_f2 ‹_› ‹_› ‹_›)
             go_roundw
             case rel => exact ⟨pos + 1, _, rfl, rfl, by omega, by omega, by omega, by rw [HN.out, HD.out, hb]; simp [*]⟩
             case measure => simp; omega)
      · have hnx := fun ty => run_next_any (P := Tryz.prog) w s pos ty hlt
        have hhi := (decode_high s pos hlt (by omega)).1
        have hle := decode_le s pos
        have hb : badN l (s[pos]'hlt).toNat = true := badN_high _ _ (by omega)
        have HF : Hid (nameB s = false) := by unfold Hid nameB; rw [HN.out, HD.out, hb]; rfl
        have hW : Hid (∀ p, Below w.heap.size w (w.iter s p)) := fun p => (Below.refl _ _).alloc (Nat.le_refl _) _
        generalize (Utf8.decode s pos).1 = c at *
        generalize (Utf8.decode s pos).2 = d at *
        clear HD HN hb
        go_wp2
        all_goals
          go_ret
          exact ⟨ret_bool HF.out.symm, hW.out _⟩
    · have : pos = s.size := by omega
      subst this
      have HF : Hid (nameB s = ((l != 45) && decide (s.size ≤ 20))) := by unfold Hid nameB; rw [HN.out, List.drop_of_length_le (by simp)]; rfl
      have hW : Hid (∀ p, Below w.heap.size w (w.iter s p)) := fun p => (Below.refl _ _).alloc (Nat.le_refl _) _
      have hnx := fun ty => run_next_end (P := Tryz.prog) w s s.size ty (by omega)
      clear HN
      have hd : decide ((s.size : Int) ≤ 20) = decide (s.size ≤ 20) := by rw [decide_eq_decide]; omega
      have HDD := Lib.hid hd
      clear hd
      go_wp2
      all_goals
        go_ret
        exact ⟨ret_bool (by rw [HF.out, ← HDD.out]; try simp [*]), hW.out _⟩
theorem name_r (r : Bool) (s : ByteArray) (w : World) (hs : s.size ≤ 1000000000000000) (hr : nameB s = r) :
    Calls Tryz.prog 117 #[.string s] w fun e w' => e = .returned (.bool r) ∧ Below w.heap.size w w' := by
  subst hr; exact name_any s w hs
def inB (n lo hi : Int) : Bool := decide (lo ≤ n) && decide (n ≤ hi)
theorem inB_out (n lo hi : Int) : inB n lo hi = !outOne lo hi n := by
  unfold inB outOne
  rw [Bool.eq_iff_iff]
  simp
theorem in1_r (r : Bool) (n lo hi : Int) (w : World) (hr : inB n lo hi = r) : Calls Tryz.prog 58 #[.int .i64 n, .int .i64 lo, .int .i64 hi] w fun e w' => e = .returned (.bool r) ∧ w = w' := by
  subst hr
  unfold inB
  go_enter Tryz.func58, Tryz.ntmps58
  by_cases h : lo ≤ n
  · have h1 : decide (lo ≤ n) = true := by simpa using h
    go_wp2
    all_goals (go_ret; exact ⟨by simp [h], rfl⟩)
  · have h1 : decide (lo ≤ n) = false := by simpa using h
    go_wp2
    all_goals (go_ret; exact ⟨by simp, rfl⟩)
/-- A string whose last letter is a dash is no name. -/
theorem nameL_last : ∀ (l : List UInt8) (a : Int) (_ : l ≠ []) (_ : l.getLastD 0 = 45), nameL a l = false
  | [], _, h, _ => absurd rfl h
  | [c], a, _, h => by
    have : c = 45 := by simpa using h
    subst this
    simp [nameL]
  | c :: d :: l, a, _, h => by
    rw [nameL, nameL_last (d :: l) _ (by simp) (by simpa using h)]
    simp
theorem nameB_empty (s : ByteArray) (h : s.size = 0) : nameB s = false := by
  unfold nameB
  have : s.data.toList = [] := by
    apply List.eq_nil_of_length_eq_zero
    simpa using h
  rw [this]; rfl
theorem nameB_long (s : ByteArray) (h : 20 < s.size) : nameB s = false := by
  unfold nameB; simp; omega
theorem nameB_first (s : ByteArray) (h : 0 < s.size) (h0 : (s[0]'h).toNat = 45) : nameB s = false := by
  have := nameL_drop s 0 h 45
  rw [h0] at this
  unfold nameB
  rw [List.drop_zero] at this
  rw [this]; rfl
theorem nameB_last (s : ByteArray) (h : 0 < s.size) (h0 : (s[s.size - 1]'(by omega)).toNat = 45) : nameB s = false := by
  unfold nameB
  rw [nameL_last]
  · rfl
  · intro hh
    have : s.data.toList.length = s.size := by simp
    rw [hh] at this
    simp at this; omega
  · have : s.data.toList.getLastD 0 = s[s.size - 1]'(by omega) := by
      rw [List.getLastD_eq_getLast?, List.getLast?_eq_getElem?]
      have : s.data.toList.length = s.size := by simp
      rw [this, List.getElem?_eq_getElem (by omega)]
      rfl
    rw [this]
    exact UInt8.toNat_inj.1 h0
/-- The letter before a place (a dash: before the first one). -/
def prevN (s : ByteArray) (k : Nat) : Int := if k = 0 then 45 else ((s.data.toList.getD (k - 1) 0).toNat : Int)
theorem prevN_pos (s : ByteArray) (k : Nat) (h : 0 < k) (hk : k - 1 < s.size) : prevN s k = ((s[k - 1]'hk).toNat : Int) := by
  unfold prevN
  rw [if_neg (by omega)]
  have : s.data.toList.getD (k - 1) 0 = s[k - 1]'hk := by simp [List.getD, List.getElem?_eq_getElem (show k - 1 < s.data.toList.length by simpa using hk)]; rfl
  rw [this]
theorem prevN_succ (s : ByteArray) (k : Nat) (hk : k < s.size) : prevN s (k + 1) = ((s[k]'hk).toNat : Int) := prevN_pos s (k + 1) (by omega) hk
set_option maxHeartbeats 4000000 in
/-- stearinref01.Name -/
theorem refName_any (s : ByteArray) (w : World) (hs : s.size ≤ 1000000000000000) :
    Calls Tryz.prog 55 #[.string s] w fun e w' => e = .returned (.bool (nameB s)) ∧ w = w' := by
  by_cases h0 : 1 ≤ s.size
  · by_cases h20 : s.size ≤ 20
    · have HI : Hid (inB s.size 1 20 = true) := by unfold Hid inB; simp; omega
      have HA := Lib.hid (nameB_first s h0)
      have HB := Lib.hid (nameB_last s h0)
      have hfirst := h0
      by_cases hf : (s[0]'h0).toNat = 45
      · have HF := Lib.hid (HA.out hf)
        clear HA HB
        go_enter Tryz.func55, Tryz.ntmps55
        go_wp2_with (go_at_call 58; refine (in1_r _ _ _ _ _ HI.out).mono ?_; rintro e w' ⟨rfl, rfl⟩)
        go_ret
        exact ⟨ret_bool HF.out.symm, rfl⟩
      · have hf1 : (((s[0]'h0).toNat : Int) == 45) = false := by simp; omega
        by_cases hg : (s[s.size - 1]'(by omega)).toNat = 45
        · have HF := Lib.hid (HB.out hg)
          have hg1 : (((s[s.size - 1]'(by omega)).toNat : Int) == 45) = true := by simp; omega
          clear HA HB hf hg
          go_enter Tryz.func55, Tryz.ntmps55
          go_wp2_with (go_at_call 58; refine (in1_r _ _ _ _ _ HI.out).mono ?_; rintro e w' ⟨rfl, rfl⟩)
          go_ret
          exact ⟨ret_bool HF.out.symm, rfl⟩
        · have hg1 : (((s[s.size - 1]'(by omega)).toNat : Int) == 45) = false := by simp; omega
          have HG := Lib.hid hg
          have HFF := Lib.hid hf
          clear HA HB hf hg
          go_enter Tryz.func55, Tryz.ntmps55
          go_wp2_with (go_at_call 58; refine (in1_r _ _ _ _ _ HI.out).mono ?_; rintro e w' ⟨rfl, rfl⟩)
          go_loop [3] (fun i => ∃ k : Nat, k ≤ s.size ∧ i = .int .i64 k ∧ nameL 45 s.data.toList = nameL (prevN s k) (s.data.toList.drop k)) (fun i => s.size - (intOf i).toNat)
          case atStart => exact ⟨0, by omega, rfl, by simp [prevN]⟩
          case round =>
            obtain ⟨k, hk, rfl, hn⟩ := hrel
            have HN := Lib.hid hn
            clear hn hf1 hg1
            by_cases hlt : k < s.size
            · have HD := Lib.hid (nameL_drop s k hlt (prevN s k))
              have HNEXT : Hid (prevN s (k + 1) = ((s[k]'hlt).toNat : Int)) := prevN_succ s k hlt
              have hcr : (s[k]'hlt).toNat < 256 := (s[k]'hlt).toNat_lt
              by_cases hc : (s[k]'hlt).toNat = 45
              · have hc1 : (((s[k]'hlt).toNat : Int) != 45) = false := by simp; omega
                have hc2 : (((s[k]'hlt).toNat : Int) == 45) = true := by simp; omega
                have hk0 : 0 < k := by
                  rcases Nat.eq_zero_or_pos k with rfl | h
                  · exact absurd hc HFF.out
                  · exact h
                have HP : Hid (prevN s k = ((s[k - 1]'(by omega)).toNat : Int)) := prevN_pos s k hk0 (by omega)
                have HC := Lib.hid hc
                clear hc
                by_cases hp : (s[k - 1]'(by omega)).toNat = 45
                · have hp1 : (((s[k - 1]'(by omega)).toNat : Int) == 45) = true := by simp; omega
                  have HF : Hid (nameB s = false) := by unfold Hid nameB; rw [HN.out, HD.out, HC.out, HP.out, hp]; rfl
                  clear hp
                  go_wp2_with fail
                  go_ret
                  exact ⟨ret_bool HF.out.symm, rfl⟩
                · have hp1 : (((s[k - 1]'(by omega)).toNat : Int) == 45) = false := by simp; omega
                  have HF : Hid (nameL 45 s.data.toList = nameL (prevN s (k + 1)) (s.data.toList.drop (k + 1))) := by
                    unfold Hid; rw [HN.out, HD.out, HNEXT.out, HC.out, badN_f1 (l := prevN s k) (c := ((45 : Nat) : Int)) rfl (by rw [HP.out]; exact hp1)]; rfl
                  clear hp
                  go_wp2_with fail
                  go_round
                  case rel => exact ⟨k + 1, by omega, by go_num, HF.out⟩
                  case measure => simp [intOf]; omega
              · have hc1 : (((s[k]'hlt).toNat : Int) != 45) = true := by simp; omega
                have hc2 : (((s[k]'hlt).toNat : Int) == 45) = false := by simp; omega
                by_cases hz : 97 ≤ (s[k]'hlt).toNat ∧ (s[k]'hlt).toNat ≤ 122
                · have HI2 : Hid (inB (s[k]'hlt).toNat 97 122 = true) := by unfold Hid inB; simp; omega
                  have HF : Hid (nameL 45 s.data.toList = nameL (prevN s (k + 1)) (s.data.toList.drop (k + 1))) := by
                    unfold Hid; rw [HN.out, HD.out, HNEXT.out, badN_f2 (by omega) (by omega) (by omega)]; rfl
                  clear hc hz
                  by_cases hk0 : 0 < k
                  all_goals
                    go_wp2_with (go_at_call 58; refine (in1_r _ _ _ _ _ HI2.out).mono ?_; rintro e w' ⟨rfl, rfl⟩)
                    go_round
                    case rel => exact ⟨k + 1, by omega, by go_num, HF.out⟩
                    case measure => simp [intOf]; omega
                · have HI2 : Hid (inB (s[k]'hlt).toNat 97 122 = false) := by unfold Hid inB; simp; omega
                  have HF : Hid (nameB s = false) := by unfold Hid nameB; rw [HN.out, HD.out, badN_t1 (by omega) (by omega)]; rfl
                  clear hc hz
                  go_wp2_with (go_at_call 58; refine (in1_r _ _ _ _ _ HI2.out).mono ?_; rintro e w' ⟨rfl, rfl⟩)
                  go_ret
                  exact ⟨ret_bool HF.out.symm, rfl⟩
            · have : k = s.size := by omega
              subst this
              have HF : Hid (nameB s = true) := by
                unfold Hid nameB; rw [HN.out, List.drop_of_length_le (by simp), prevN_pos s _ (by omega) (by omega)]
                have := HG.out
                simp [nameL, h20]; omega
              clear HG
              go_wp2_with fail
              go_ret
              exact ⟨ret_bool HF.out.symm, rfl⟩
    · have HF := Lib.hid (nameB_long s (by omega))
      have HI : Hid (inB s.size 1 20 = false) := by unfold Hid inB; simp; omega
      go_enter Tryz.func55, Tryz.ntmps55
      go_wp2_with (go_at_call 58; refine (in1_r _ _ _ _ _ HI.out).mono ?_; rintro e w' ⟨rfl, rfl⟩)
      go_ret
      exact ⟨ret_bool HF.out.symm, rfl⟩
  · have HF := Lib.hid (nameB_empty s (by omega))
    have HI : Hid (inB s.size 1 20 = false) := by unfold Hid inB; simp; omega
    go_enter Tryz.func55, Tryz.ntmps55
    go_wp2_with (go_at_call 58; refine (in1_r _ _ _ _ _ HI.out).mono ?_; rintro e w' ⟨rfl, rfl⟩)
    go_ret
    exact ⟨ret_bool HF.out.symm, rfl⟩
/-- The slice value reads as these strings. -/
def rdStr : Rd ByteArray where
  sz := 1
  rd _ w b o x := w.cell? ⟨b, o, none⟩ = some (.string x)
  below hbb hb h := (hb.cell (p := ⟨_, _, none⟩) hbb).trans h
  mono _ h := h
def namedE (before : List ByteArray) (n : ByteArray) : Int := if nameB n = false then 6 else if before.any (sameN n) then 5 else 0
instance : Inhabited ByteArray := ⟨ByteArray.empty⟩
set_option maxHeartbeats 2000000 in
/-- stearinref01.Named -/
theorem named_any (l : List ByteArray) (v : Value) (n : ByteArray) (w : World) (hn : n.size ≤ 1000000000000000) (hv : SlIn rdStr w.heap.size w v l) :
    Calls Tryz.prog 57 #[.string n, v] w fun e w' => e = .returned (.int .i64 (namedE l n)) ∧ w = w' := by
  have HV := Lib.hid hv
  obtain ⟨a, c, rfl, hl, hlc, -⟩ := hv
  have hnm := refName_any n w hn
  have HE : Hid (namedE l n = if nameB n = false then 6 else if l.any (sameN n) then 5 else 0) := rfl
  generalize namedE l n = E at *
  obtain ⟨r, hr⟩ : ∃ r, nameB n = r := ⟨_, rfl⟩
  rw [hr] at HE hnm
  have HN := Lib.hid hnm
  clear hnm hr
  cases r
  · go_enter Tryz.func57, Tryz.ntmps57
    go_wp2_with fail
    refine HN.out.mono ?_
    rintro e w' ⟨rfl, rfl⟩
    go_wp2_with fail
    go_ret
    exact ⟨ret_int (by rw [HE.out]; rfl), rfl⟩
  · go_enter Tryz.func57, Tryz.ntmps57
    go_wp2_with fail
    refine HN.out.mono ?_
    rintro e w' ⟨rfl, rfl⟩
    go_wp2_with fail
    go_loop [5] (fun i => ∃ k : Nat, k ≤ l.length ∧ i = .int .i64 k ∧ l.any (sameN n) = (l.drop k).any (sameN n)) (fun i => l.length - (intOf i).toNat)
    case atStart => exact ⟨0, by omega, rfl, by simp⟩
    case round =>
      obtain ⟨k, hk, rfl, hf⟩ := hrel
      have HF := Lib.hid hf
      clear hf
      by_cases hkl : k < l.length
      · obtain ⟨b', o, c', hvv, -, hbB, hc1⟩ := HV.out.at hkl
        cases hvv
        simp only [rdStr, Nat.mul_one] at hc1
        have HD : Hid ((l.drop k).any (sameN n) = (sameN n (l.getD k default) || (l.drop (k + 1)).any (sameN n))) := by
          unfold Hid
          rw [List.drop_eq_getElem_cons hkl, List.any_cons]
          simp [List.getD, hkl]
        generalize l.getD k default = y at *
        obtain ⟨r, hr⟩ : ∃ r, (y.toList == n.toList) = r := ⟨_, rfl⟩
        have HR : Hid (sameN n y = r) := hr
        cases r
        · go_wp2_with fail
          go_round
          case rel => exact ⟨k + 1, by omega, by go_num, by rw [HF.out, HD.out, HR.out]; simp⟩
          case measure => simp [intOf]; omega
        · go_wp2_with fail
          go_ret
          exact ⟨ret_int (by rw [HE.out, HF.out, HD.out, HR.out]; simp), rfl⟩
      · have : k = l.length := by omega
        go_wp2_with fail
        go_ret
        exact ⟨ret_int (by rw [HE.out, HF.out, this]; simp), rfl⟩
end Go.Proofs.YtpkggjobdmchlaaGreatDoor
namespace Go.Proofs.YtpkggjobdmchlaaGreatDoor
open Go.RowKit
theorem sl_shape {α : Type} [Inhabited α] {R : Rd α} {B : Nat} {w : World} {v : Value} {l : List α} (h : SlIn R B w v l) : ∃ a c, v = .slice a l.length c ∧ l.length ≤ c ∧ l.length ≤ 1000000000000000 := by
  obtain ⟨a, c, e, h1, h2, -⟩ := h
  exact ⟨a, c, e, h2, h1⟩
end Go.Proofs.YtpkggjobdmchlaaGreatDoor
namespace Go.Proofs.YtpkggjobdmchlaaGreatDoor
open Go.RowKit
/-- All but one block stays. -/
structure But (g : Nat) (w w' : World) : Prop where
  os : w'.os = w.os
  tape : w'.tape = w.tape
  output : w'.output = w.output
  size : w.heap.size ≤ w'.heap.size
  block : ∀ k, k < w.heap.size → k ≠ g → w'.heap[k]? = w.heap[k]?
theorem But.refl (g : Nat) (w : World) : But g w w := ⟨rfl, rfl, rfl, Nat.le_refl _, fun _ _ _ => rfl⟩
theorem But.trans {g : Nat} {a b c : World} (h : But g a b) (k : But g b c) : But g a c :=
  ⟨k.os.trans h.os, k.tape.trans h.tape, k.output.trans h.output, Nat.le_trans h.size k.size, fun i hi hg => (k.block i (Nat.lt_of_lt_of_le hi h.size) hg).trans (h.block i hi hg)⟩
theorem But.of {g : Nat} {w w' : World} (h : Below w.heap.size w w') : But g w w' := ⟨h.os, h.tape, h.output, h.size, fun k hk _ => h.block k hk⟩
theorem But.drewN (g : Nat) (w : World) (n : Nat) : But g w (w.drewN n) := But.of (below_drewN (Below.refl _ _) n)
theorem But.alloc {g : Nat} {w w' : World} (h : But g w w') (o : Obj) : But g w (w'.alloc o) := h.trans (But.of ((Below.refl _ _).alloc (Nat.le_refl _) o))
theorem But.below {g B : Nat} {w w' : World} (h : But g w w') (h1 : B ≤ g) (h2 : B ≤ w.heap.size) : Below B w w' := ⟨h.os, h.tape, h.output, h.size, fun k hk => h.block k (by omega) (by omega)⟩
theorem But.cell {g b o : Nat} {w w' : World} (h : But g w w') (h1 : b < w.heap.size) (h2 : b ≠ g) : w'.cell? ⟨b, o, none⟩ = w.cell? ⟨b, o, none⟩ := by
  unfold World.cell?
  simp only [h.block b h1 h2]
/-- A list of blocks, one of them turned. -/
theorem Bs.but {w0 w w' : World} {l : List (Nat × Obj)} (H : Bs w0 l w) (i : Nat) {g : Nat} {o o' : Obj} (hi : l[i]? = some (g, o)) (h : But g w w') (hg : w'.heap[g]? = some o') : Bs w0 (l.set i (g, o')) w' := by
  refine ⟨?_, ?_, ?_, H.bel.trans (h.below (H.le i hi) H.bel.size)⟩
  · intro p hp
    obtain ⟨j, hj⟩ := List.mem_iff_getElem?.1 hp
    by_cases hji : j = i
    · subst hji
      have hlt : j < l.length := (List.getElem?_eq_some_iff.1 hi).1
      rw [List.getElem?_set_self hlt] at hj
      cases hj
      exact hg
    · rw [List.getElem?_set_ne (Ne.symm hji)] at hj
      have hm := List.mem_of_getElem? hj
      rw [h.block _ (block_lt (H.get' p hm)) (H.other i hi hji hj)]
      exact H.get' p hm
  · have : (l.set i (g, o')).map Prod.fst = l.map Prod.fst := by
      rw [List.map_set]
      apply List.ext_getElem?
      intro j
      by_cases hji : j = i
      · subst hji
        have hlt : j < (l.map Prod.fst).length := by simpa using (List.getElem?_eq_some_iff.1 hi).1
        rw [List.getElem?_set_self hlt]
        simp [hi]
      · rw [List.getElem?_set_ne (Ne.symm hji)]
    rw [this]
    exact H.inc
  · intro p hp
    obtain ⟨j, hj⟩ := List.mem_iff_getElem?.1 hp
    by_cases hji : j = i
    · subst hji
      have hlt : j < l.length := (List.getElem?_eq_some_iff.1 hi).1
      rw [List.getElem?_set_self hlt] at hj
      cases hj
      exact H.le j hi
    · rw [List.getElem?_set_ne (Ne.symm hji)] at hj
      exact H.ge p (List.mem_of_getElem? hj)
section
variable {P : Program} {ops : Array Oper} {rest : List Oper} {o : Oper} {a : Act} {w : World} {Q : Exit → Act → World → Prop}
end
theorem info3 : (Tryz.prog.info? 3).map (·.size) = some 1 := by kernel_rfl
def spC (m : Nat → Int × Int) : List Value := [.int .i64 (m 0).1, .int .i64 (m 0).2, .int .i64 (m 1).1, .int .i64 (m 1).2, .int .i64 (m 2).1, .int .i64 (m 2).2, .int .i64 (m 3).1, .int .i64 (m 3).2, .int .i64 (m 4).1, .int .i64 (m 4).2]
structure BO where
  vg : Value
  vb : Value
  va : Value
  wt : Int
  tk : Int
  mi : Nat → Int × Int
  pa : Nat → Int × Int
/-- The cells of a batch that is looked at. -/
def BO.c (x : BO) : Array Value := ([x.vg, x.vb, x.va, .int .i64 x.wt, .int .i64 x.tk] ++ (spC x.mi ++ spC x.pa)).toArray
theorem lt5 {t : Nat} (h : t < 5) : t = 0 ∨ t = 1 ∨ t = 2 ∨ t = 3 ∨ t = 4 := by omega
theorem BO.size (x : BO) : x.c.size = 25 := rfl
theorem BO.lo (x : BO) {t : Nat} (h : t < 5) : x.c[5 + t * 2]? = some (.int .i64 (x.mi t).1) := by
  rcases lt5 h with rfl | rfl | rfl | rfl | rfl <;> rfl
theorem BO.hi (x : BO) {t : Nat} (h : t < 5) : x.c[5 + t * 2 + 1]? = some (.int .i64 (x.mi t).2) := by
  rcases lt5 h with rfl | rfl | rfl | rfl | rfl <;> rfl
theorem BO.plo (x : BO) {t : Nat} (h : t < 5) : x.c[15 + t * 2]? = some (.int .i64 (x.pa t).1) := by
  rcases lt5 h with rfl | rfl | rfl | rfl | rfl <;> rfl
theorem BO.phi (x : BO) {t : Nat} (h : t < 5) : x.c[15 + t * 2 + 1]? = some (.int .i64 (x.pa t).2) := by
  rcases lt5 h with rfl | rfl | rfl | rfl | rfl <;> rfl
end Go.Proofs.YtpkggjobdmchlaaGreatDoor
namespace Go.Proofs.YtpkggjobdmchlaaGreatDoor
open Go.RowKit
/-- A slice of ranges that lies apart from a block. -/
def SpansBut (g : Nat) (w : World) (v : Value) (l : List (Int × Int)) : Prop :=
  ∃ a c, v = .slice a l.length c ∧ (l = [] ∨ ∃ b o, a = some ⟨b, o, none⟩ ∧ b < w.heap.size ∧ b ≠ g ∧ ∀ i, i < l.length → w.cell? ⟨b, o + i * 2, none⟩ = some (.int .i64 (l.getD i (0, 0)).1) ∧ w.cell? ⟨b, o + i * 2 + 1, none⟩ = some (.int .i64 (l.getD i (0, 0)).2))
theorem SlIn.but {B g : Nat} {w : World} {v : Value} {l : List (Int × Int)} (h : SpansIn B w v l) (hB : B ≤ g) (hw : B ≤ w.heap.size) : SpansBut g w v l := by
  obtain ⟨a, c, rfl, -, -, h⟩ := h
  refine ⟨a, c, rfl, ?_⟩
  rcases h with h | ⟨b, o, rfl, hb, h⟩
  · exact .inl h
  · exact .inr ⟨b, o, rfl, by omega, by omega, h⟩
end Go.Proofs.YtpkggjobdmchlaaGreatDoor
namespace Go.Proofs.YtpkggjobdmchlaaGreatDoor
open Go.RowKit
section
variable {w w' : World} {base : Nat} {v : Value} {n sz : Nat} {e : TypeId} {xs : List Value}
theorem ownsRow_slice (h : w.ownsRow base e sz v n xs) : ∃ a c, v = .slice a n c := by
  rcases h.2 with ⟨rfl, h0⟩ | ⟨g, cap, cur, rfl, _⟩
  · exact ⟨none, 0, by rw [h0]⟩
  · exact ⟨_, _, rfl⟩
theorem ownsRow.below (h : w.ownsRow base e sz v n xs) (hb : Below w.heap.size w w') : w'.ownsRow base e sz v n xs := by
  refine ⟨h.1, ?_⟩
  rcases h.2 with h0 | ⟨g, cap, cur, rfl, h1, h2, h3⟩
  · exact .inl h0
  · exact .inr ⟨g, cap, cur, rfl, h1, block_keep h2 hb, h3⟩
/-- A block of another type is turned. -/
theorem ownsRow.but (h : w.ownsRow base e sz v n xs) {g : Nat} (hb : But g w w') {cs : Array Value} {t : TypeId} (hg : w.heap[g]? = some (.cells cs t)) (hne : t ≠ e) : w'.ownsRow base e sz v n xs := by
  refine ⟨h.1, ?_⟩
  rcases h.2 with h0 | ⟨b, cap, cur, rfl, h1, h2, h3⟩
  · exact .inl h0
  · refine .inr ⟨b, cap, cur, rfl, h1, (hb.block b (block_lt h2) ?_).trans h2, h3⟩
    rintro rfl
    rw [hg] at h2
    cases h2
    exact hne rfl
theorem ownsRow.le {base' : Nat} (h : w.ownsRow base e sz v n xs) (hb : base' ≤ base) : w.ownsRow base' e sz v n xs := by
  refine ⟨h.1, ?_⟩
  rcases h.2 with h0 | ⟨b, cap, cur, rfl, h1, h2, h3⟩
  · exact .inl h0
  · exact .inr ⟨b, cap, cur, rfl, by omega, h2, h3⟩
/-- What an append leaves as it was. -/
theorem grown_keep (h : w.ownsRow base e sz v n xs) (hg : w.grownBy w' v.ownBlock) {k : Nat} {cs : Array Value} {t : TypeId} (hk : w.heap[k]? = some (.cells cs t)) (hne : t ≠ e) : w'.heap[k]? = some (.cells cs t) := by
  have hlt := block_lt hk
  have hb : Below k w (w) := Below.refl _ _
  rcases h.2 with ⟨rfl, -⟩ | ⟨b, cap, cur, rfl, h1, h2, -⟩
  · exact (hg.block k hlt (by simp [Value.ownBlock])).trans hk
  · refine (hg.block k hlt ?_).trans hk
    rintro e1
    simp only [Value.ownBlock, Option.some.injEq] at e1
    subst e1
    rw [hk] at h2
    cases h2
    exact hne rfl
theorem grown_below (h : w.ownsRow base e sz v n xs) (hg : w.grownBy w' v.ownBlock) {B : Nat} (h1 : B ≤ base) (h2 : B ≤ w.heap.size) : Below B w w' :=
  (Below.refl B w).grown hg h2 (fun k e => Nat.le_trans h1 ((World.ownsRow.lt h k e).1))
end
end Go.Proofs.YtpkggjobdmchlaaGreatDoor
namespace Go.Proofs.YtpkggjobdmchlaaGreatDoor
open Go.RowKit
/-- A batch that is looked at is the i-th one, after the first k. -/
def BoOk (B : Nat) (w : World) (s : Shop) (l : List Bat) (k i : Nat) (x : BO) : Prop :=
  x.wt = weightV (l.getD i default) ∧ x.tk = takenV l i k ∧ x.mi = micV s l i ∧ x.pa = parV s l i ∧ BatAt B w x.vg x.vb x.va (l.getD i default)
section
variable {B : Nat} {w wr w' : World} {k : Nat} {g : Nat → Nat} {bo : Nat → BO} {gs ga : Nat} {vt vl va : Value}
end
end Go.Proofs.YtpkggjobdmchlaaGreatDoor
