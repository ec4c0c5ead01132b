/- The checks of spans and of names among stores: find, IndexFunc, ContainsFunc, and their tests. -/
import Derived.Test.YtddapabmfecidaaW3
namespace Go.Proofs.Ytddapabmfecidaa
open Go.RowKit

/-- A store, as plain data. -/
structure Sto where
  name : ByteArray
  rent : Int
  warm : List (Int × Int)
instance : Inhabited Sto := ⟨⟨ByteArray.empty, 0, []⟩⟩

/-- The slice value reads as these spans. -/
def SpansIn (B : Nat) (w : World) (v : Value) (l : List (Int × Int)) : Prop :=
  ∃ a c, v = .slice a l.length c ∧ l.length ≤ 1000000000000000 ∧ l.length ≤ c ∧ (l = [] ∨ ∃ b o, a = some ⟨b, o, none⟩ ∧ b < B ∧
    ∀ i, i < l.length → w.cell? ⟨b, o + i * 2, none⟩ = some (.int .i64 (l.getD i (0, 0)).1) ∧ w.cell? ⟨b, o + i * 2 + 1, none⟩ = some (.int .i64 (l.getD i (0, 0)).2))
theorem SpansIn.below {B : Nat} {w w' : World} {v : Value} {l : List (Int × Int)} (h : SpansIn B w v l) (hb : Below B w w') : SpansIn B w' v l := by
  obtain ⟨a, c, rfl, hl, hlc, h⟩ := h
  refine ⟨a, c, rfl, hl, hlc, ?_⟩
  rcases h with h | ⟨b, o, rfl, hbb, h⟩
  · exact .inl h
  · exact .inr ⟨b, o, rfl, hbb, fun i hi => ⟨(hb.cell (p := ⟨b, _, none⟩) hbb).trans (h i hi).1, (hb.cell (p := ⟨b, _, none⟩) hbb).trans (h i hi).2⟩⟩
theorem SpansIn.mono {B B' : Nat} {w : World} {v : Value} {l : List (Int × Int)} (h : SpansIn B w v l) (hb : B ≤ B') : SpansIn B' w v l := by
  obtain ⟨a, c, rfl, hl, hlc, h⟩ := h
  refine ⟨a, c, rfl, hl, hlc, ?_⟩
  rcases h with h | ⟨b, o, rfl, hbb, h⟩
  · exact .inl h
  · exact .inr ⟨b, o, rfl, by omega, h⟩

/-- The slice value reads as these stores. -/
def StosIn (B : Nat) (w : World) (v : Value) (l : List Sto) : Prop :=
  ∃ a c, v = .slice a l.length c ∧ l.length ≤ 1000000000000000 ∧ l.length ≤ c ∧ (l = [] ∨ ∃ b o, a = some ⟨b, o, none⟩ ∧ b < B ∧
    ∀ i, i < l.length → w.cell? ⟨b, o + i * 3, none⟩ = some (.string (l.getD i default).name) ∧ w.cell? ⟨b, o + i * 3 + 1, none⟩ = some (.int .i64 (l.getD i default).rent) ∧
      (l.getD i default).name.size ≤ 1000000000000000 ∧ ∃ v, w.cell? ⟨b, o + i * 3 + 2, none⟩ = some v ∧ SpansIn B w v (l.getD i default).warm)
theorem StosIn.below {B : Nat} {w w' : World} {v : Value} {l : List Sto} (h : StosIn B w v l) (hb : Below B w w') : StosIn B w' v l := by
  obtain ⟨a, c, rfl, hl, hlc, h⟩ := h
  refine ⟨a, c, rfl, hl, hlc, ?_⟩
  rcases h with h | ⟨b, o, rfl, hbb, h⟩
  · exact .inl h
  · refine .inr ⟨b, o, rfl, hbb, fun i hi => ?_⟩
    obtain ⟨h1, h2, hz, v, h3, h4⟩ := h i hi
    exact ⟨(hb.cell (p := ⟨b, _, none⟩) hbb).trans h1, (hb.cell (p := ⟨b, _, none⟩) hbb).trans h2, hz, v, (hb.cell (p := ⟨b, _, none⟩) hbb).trans h3, h4.below hb⟩
theorem StosIn.mono {B B' : Nat} {w : World} {v : Value} {l : List Sto} (h : StosIn B w v l) (hb : B ≤ B') : StosIn B' w v l := by
  obtain ⟨a, c, rfl, hl, hlc, h⟩ := h
  refine ⟨a, c, rfl, hl, hlc, ?_⟩
  rcases h with h | ⟨b, o, rfl, hbb, h⟩
  · exact .inl h
  · refine .inr ⟨b, o, rfl, by omega, fun i hi => ?_⟩
    obtain ⟨h1, h2, hz, v, h3, h4⟩ := h i hi
    exact ⟨h1, h2, hz, v, h3, h4.mono hb⟩
theorem StosIn.len {B : Nat} {w : World} {v : Value} {l : List Sto} (h : StosIn B w v l) : l.length ≤ 1000000000000000 := by
  obtain ⟨a, c, rfl, hl, hlc, h⟩ := h; exact hl
/-- What lies at a place of the stores. -/
theorem StosIn.at {B : Nat} {w : World} {v : Value} {l : List Sto} (h : StosIn B w v l) {i : Nat} (hi : i < l.length) :
    ∃ b o c, v = .slice (some ⟨b, o, none⟩) l.length c ∧ l.length ≤ c ∧ b < B ∧ w.cell? ⟨b, o + i * 3, none⟩ = some (.string (l.getD i default).name) ∧ w.cell? ⟨b, o + i * 3 + 1, none⟩ = some (.int .i64 (l.getD i default).rent) ∧
      (l.getD i default).name.size ≤ 1000000000000000 ∧ ∃ v, w.cell? ⟨b, o + i * 3 + 2, none⟩ = some v ∧ SpansIn B w v (l.getD i default).warm := by
  obtain ⟨a, c, rfl, hl, hlc, h⟩ := h
  rcases h with rfl | ⟨b, o, rfl, hbb, h⟩
  · simp at hi
  · obtain ⟨h1, h2, hz, v, h3, h4⟩ := h i hi
    exact ⟨b, o, c, rfl, hlc, hbb, h1, h2, hz, v, h3, h4⟩
theorem SpansIn.at {B : Nat} {w : World} {v : Value} {l : List (Int × Int)} (h : SpansIn B w v l) {i : Nat} (hi : i < l.length) :
    ∃ b o c, v = .slice (some ⟨b, o, none⟩) l.length c ∧ l.length ≤ c ∧ b < B ∧ w.cell? ⟨b, o + i * 2, none⟩ = some (.int .i64 (l.getD i (0, 0)).1) ∧ w.cell? ⟨b, o + i * 2 + 1, none⟩ = some (.int .i64 (l.getD i (0, 0)).2) := by
  obtain ⟨a, c, rfl, hl, hlc, h⟩ := h
  rcases h with rfl | ⟨b, o, rfl, hbb, h⟩
  · simp at hi
  · exact ⟨b, o, c, rfl, hlc, hbb, (h i hi).1, (h i hi).2⟩

theorem bcell {W w1 : World} (hb : Below W.heap.size W w1) : (∀ b o, b < W.heap.size → w1.cell? ⟨b, o, none⟩ = W.cell? ⟨b, o, none⟩) ∧ (∀ b o, b < W.heap.size → w1.frozen? ⟨b, o, none⟩ = W.frozen? ⟨b, o, none⟩) :=
  ⟨fun b o h => hb.cell (p := ⟨b, o, none⟩) h, fun b o h => hb.frozen (p := ⟨b, o, none⟩) h⟩

theorem StosIn.take {B : Nat} {w : World} {a : Option Addr} {n c : Nat} {l : List Sto} (h : StosIn B w (.slice a n c) l) (i : Nat) (hi : i ≤ l.length) : StosIn B w (.slice a i c) (l.take i) := by
  obtain ⟨a', c', he, hl, hlc, h⟩ := h
  cases he
  refine ⟨a, c, by rw [List.length_take]; congr 1; omega, by rw [List.length_take]; omega, by rw [List.length_take]; omega, ?_⟩
  rcases h with rfl | ⟨b, o, rfl, hbb, h⟩
  · exact .inl (by simp)
  · refine .inr ⟨b, o, rfl, hbb, fun k hk => ?_⟩
    rw [List.length_take] at hk
    have e : (l.take i).getD k default = l.getD k default := by
      simp only [List.getD_eq_getElem?_getD, List.getElem?_take]
      rw [if_pos (by omega)]
    rw [e]
    exact h k (by omega)

/-- The first thing with an error: its index and its error; else 0, 0. -/
def findE : List Int → Int → Int × Int
  | [], _ => (0, 0)
  | e :: es, i => if e = 0 then findE es (i + 1) else (i, e)
theorem findE_drop (es : List Int) (k : Nat) (h : k < es.length) (i : Int) : findE (es.drop k) i = if es.getD k 0 = 0 then findE (es.drop (k + 1)) (i + 1) else (i, es.getD k 0) := by
  rw [List.drop_eq_getElem_cons h, findE]
  simp [List.getD, h]

/-- The error of a span. -/
def spanE (p : Int × Int) : Int := if outB 0 60 [p.1, p.2] then 7 else if p.2 < p.1 then 2 else 0
def spansE (l : List (Int × Int)) : Int := (findE (l.map spanE) 0).2

theorem out_r (r : Bool) (lo hi : Int) (l : List Int) (hr : outB lo hi l = r) (v : Value) (w : World) (B : Nat) (hv : IntsIn .i64 B w v l) (hB : B ≤ w.heap.size) :
    Calls Try.prog 35 #[.int .i64 lo, .int .i64 hi, v] w fun e w' => e = .returned (.bool r) ∧ Below w.heap.size w w' := by
  subst hr; exact out_any lo hi l v w (hv.mono hB)

/-- The ints of a slice literal, in the block that was just made for it. -/
theorem intsIn_new (w : World) (g : Nat) (hg : w.heap.size = g) (l : List Int) (hl : l.length ≤ 1000) (n : Nat) (hn : l.length = n) : IntsIn .i64 (g + 1) (w.alloc (.cells (ints l) 3)) (.slice (some ⟨g, 0, none⟩) n n) l := by
  subst hg
  exact ⟨_, _, by rw [hn], by omega, .inr ⟨_, _, rfl, by omega, fun i hi => by rw [cell_of_row _ _ _ _ _ _ (heap_alloc_new w _), Nat.zero_add, ints_get _ _ hi]⟩⟩

set_option maxHeartbeats 1000000 in
theorem check12_any (i lo hi : Int) (w : World) :
    Calls Try.prog 58 #[.int .i64 i, .agg #[.int .i64 lo, .int .i64 hi]] w fun e w' => e = .returned (.int .i64 (spanE (lo, hi))) ∧ Below w.heap.size w w' := by
  have hb := (((Below.refl w.heap.size w).alloc (Nat.le_refl _) (.cells #[.int .i64 lo, .int .i64 hi] 53)).alloc (by simp) (.cells (ints [lo, hi]) 3))
  have hI := intsIn_new (w.alloc (.cells #[.int .i64 lo, .int .i64 hi] 53)) (w.heap.size + 1) (by simp) [lo, hi] (by simp) 2 rfl
  have HI := Lib.hid hI
  obtain ⟨r, hr⟩ : ∃ r, outB 0 60 [lo, hi] = r := ⟨_, rfl⟩
  have HR := Lib.hid hr
  have HE : Hid (spanE (lo, hi) = if r then 7 else if hi < lo then 2 else 0) := by unfold spanE Hid; rw [hr]
  clear hI hr
  cases r
  · by_cases hlt : hi < lo
    · have HG : Hid (spanE (lo, hi) = 2) := by rw [HE.out]; simp [Hid, hlt]
      go_enter Try.func58, Try.ntmps58
      go_wp2_with (go_at_call 35; refine (out_r _ 0 60 _ HR.out _ _ _ HI.out (by simp)).mono ?_; rintro e w' ⟨rfl, hbw⟩; obtain ⟨hcw, hfw⟩ := bcell hbw)
      go_ret
      exact ⟨ret_int HG.out.symm, hb.trans (hbw.mono (by simp; omega))⟩
    · have HG : Hid (spanE (lo, hi) = 0) := by rw [HE.out]; simp [Hid, hlt]
      go_enter Try.func58, Try.ntmps58
      go_wp2_with (go_at_call 35; refine (out_r _ 0 60 _ HR.out _ _ _ HI.out (by simp)).mono ?_; rintro e w' ⟨rfl, hbw⟩; obtain ⟨hcw, hfw⟩ := bcell hbw)
      go_ret
      exact ⟨ret_int HG.out.symm, hb.trans (hbw.mono (by simp; omega))⟩
  · have HG : Hid (spanE (lo, hi) = 7) := by rw [HE.out]; simp [Hid]
    go_enter Try.func58, Try.ntmps58
    go_wp2_with (go_at_call 35; refine (out_r _ 0 60 _ HR.out _ _ _ HI.out (by simp)).mono ?_; rintro e w' ⟨rfl, hbw⟩; obtain ⟨hcw, hfw⟩ := bcell hbw)
    go_ret
    exact ⟨ret_int HG.out.symm, hb.trans (hbw.mono (by simp; omega))⟩

set_option maxHeartbeats 2000000 in
/-- find at spans. -/
theorem findSpan_any (l : List (Int × Int)) (v : Value) (w : World) (hv : SpansIn w.heap.size w v l) :
    Calls Try.prog 57 #[v, .func (.func 58) #[] #[]] w fun e w' => (∃ k, e = .returned (.tuple #[.int .i64 k, .int .i64 (spansE l)])) ∧ Below w.heap.size w w' := by
  have HV := Lib.hid hv
  obtain ⟨a, c, rfl, hl, hlc, -⟩ := hv
  go_enter Try.func57, Try.ntmps57
  go_wp2
  go_loopw [10] (fun i wr => ∃ k : Nat, k ≤ l.length ∧ i = .int .i64 k ∧ Below w.heap.size w wr ∧ (findE (l.map spanE) 0).2 = (findE ((l.map spanE).drop k) k).2) (fun i _ => l.length - (intOf i).toNat)
  case atStart => exact ⟨0, by omega, rfl, Below.refl _ _, rfl⟩
  case round =>
    obtain ⟨k, hk, rfl, hb, hf⟩ := hrel
    have HF := Lib.hid hf
    clear hf
    by_cases hlt : k < l.length
    · obtain ⟨b, o, c', hvv, _, hbB, hc1, hc2⟩ := (HV.out.below hb).at hlt
      cases hvv
      have HD : Hid (findE ((l.map spanE).drop k) k = if spanE (l.getD k (0, 0)) = 0 then findE ((l.map spanE).drop (k + 1)) (k + 1) else (k, spanE (l.getD k (0, 0)))) := by
        unfold Hid
        rw [findE_drop _ _ (by simpa using hlt)]
        simp [List.getD, hlt]
      generalize l.getD k (0, 0) = p at hc1 hc2 HD
      obtain ⟨lo, hi⟩ := p
      simp only at hc1 hc2
      obtain ⟨e, he⟩ : ∃ e, spanE (lo, hi) = e := ⟨_, rfl⟩
      rw [he] at HD
      have HE := Lib.hid he
      clear he
      by_cases hz : e = 0
      · subst hz
        go_wp2_with (go_at_call 58; refine (check12_any _ _ _ _).mono ?_; rintro e w' ⟨rfl, hbw⟩; rw [HE.out])
        go_roundw
        case rel => exact ⟨k + 1, by omega, by go_num, hb.trans (((Below.refl _ _).alloc hb.size _).trans (hbw.mono (by have := hb.size; simp; omega))), by rw [HF.out, HD.out]; rfl⟩
        case measure => simp [intOf]; omega
      · have hz1 : (e == 0) = false := by simpa using hz
        have hz2 : (e != 0) = true := by simpa using hz
        have HZ := Lib.hid hz
        clear hz
        go_wp2_with (go_at_call 58; refine (check12_any _ _ _ _).mono ?_; rintro e w' ⟨rfl, hbw⟩; rw [HE.out])
        go_ret2
        exact ⟨⟨_, by unfold spansE; rw [HF.out, HD.out, if_neg HZ.out]; rfl⟩, hb.trans (((Below.refl _ _).alloc hb.size _).trans (hbw.mono (by have := hb.size; simp; omega)))⟩
    · have : k = l.length := by omega
      subst this
      have HZ : Hid (spansE l = 0) := by unfold Hid spansE; rw [HF.out, List.drop_of_length_le (by simp)]; rfl
      go_wp2
      go_ret2
      exact ⟨⟨_, by rw [HZ.out]; rfl⟩, hb⟩

def stoV (x : Sto) (vw : Value) : Value := .agg #[.string x.name, .int .i64 x.rent, vw]

/-- Two stores of one name? -/
theorem check11_any (y : Sto) (vw : Value) (b : Nat) (n : ByteArray) (w : World) (hc : w.cell? ⟨b, 0, none⟩ = some (.string n)) (hlt : b < w.heap.size) (r : Bool) (hr : (y.name.toList == n.toList) = r) :
    Calls Try.prog 56 #[.agg #[.string y.name, .int .i64 y.rent, vw], .pointer (some ⟨b, 0, none⟩)] w fun e w' => e = .returned (.bool r) ∧ Below w.heap.size w w' := by
  have HR := Lib.hid hr
  clear hr
  go_enter Try.func56, Try.ntmps56
  go_wp2
  go_ret
  exact ⟨ret_bool HR.out, (Below.refl _ _).alloc (Nat.le_refl _) _⟩

def nameIs (n : ByteArray) (y : Sto) : Bool := y.name.toList == n.toList

set_option maxHeartbeats 2000000 in
/-- slices.IndexFunc at stores with that test. -/
theorem indexSto_any (l : List Sto) (v : Value) (n : ByteArray) (b : Nat) (w : World) (hv : StosIn w.heap.size w v l) (hc : w.cell? ⟨b, 0, none⟩ = some (.string n)) (hlt : b < w.heap.size) :
    Calls Try.prog 61 #[v, .func (.func 56) #[] #[.pointer (some ⟨b, 0, none⟩)]] w
      fun e w' => (∃ k : Int, e = .returned (.int .i64 k) ∧ decide (0 ≤ k) = l.any (nameIs n)) ∧ Below w.heap.size w w' := by
  have HV := Lib.hid hv
  obtain ⟨a, c, rfl, hl, hlc, -⟩ := hv
  go_enter Try.func61, Try.ntmps61
  go_wp2
  go_loopw [8] (fun i wr => ∃ k : Nat, k ≤ l.length ∧ i = .int .i64 k ∧ Below w.heap.size w wr ∧ l.any (nameIs n) = (l.drop k).any (nameIs n)) (fun i _ => l.length - (intOf i).toNat)
  case atStart => exact ⟨0, by omega, rfl, Below.refl _ _, by simp⟩
  case round =>
    obtain ⟨k, hk, rfl, hb, hf⟩ := hrel
    have HF := Lib.hid hf
    clear hf
    by_cases hkl : k < l.length
    · obtain ⟨b', o, c', hvv, _, hbB, hc1, hc2, _, vw, hc3, _⟩ := (HV.out.below hb).at hkl
      cases hvv
      have hcb := (hb.cell (p := ⟨b, 0, none⟩) hlt).trans hc
      have HD : Hid ((l.drop k).any (nameIs n) = (nameIs n (l.getD k default) || (l.drop (k + 1)).any (nameIs n))) := by
        unfold Hid
        rw [List.drop_eq_getElem_cons hkl, List.any_cons]
        simp [List.getD, hkl]
      generalize l.getD k default = y at hc1 hc2 HD
      obtain ⟨r, hr⟩ : ∃ r, nameIs n y = r := ⟨_, rfl⟩
      have HR := Lib.hid hr
      clear hr
      have hsz := hb.size
      cases r
      · go_wp2_with (go_at_call 56; refine (check11_any y _ _ n _ hcb (by omega) _ HR.out).mono ?_; rintro e w' ⟨rfl, hbw⟩)
        go_roundw
        case rel => exact ⟨k + 1, by omega, by go_num, hb.trans (hbw.mono hb.size), by rw [HF.out, HD.out, HR.out]; simp⟩
        case measure => simp [intOf]; omega
      · go_wp2_with (go_at_call 56; refine (check11_any y _ _ n _ hcb (by omega) _ HR.out).mono ?_; rintro e w' ⟨rfl, hbw⟩)
        go_ret
        exact ⟨⟨_, rfl, by rw [HF.out, HD.out, HR.out]; simp⟩, hb.trans (hbw.mono hb.size)⟩
    · have : k = l.length := by omega
      go_wp2
      go_ret
      exact ⟨⟨_, rfl, by rw [HF.out, this]; simp⟩, hb⟩

theorem containsSto_any (r : Bool) (l : List Sto) (v : Value) (n : ByteArray) (b : Nat) (w : World) (B : Nat) (hv : StosIn B w v l) (hB : B ≤ w.heap.size) (hc : w.cell? ⟨b, 0, none⟩ = some (.string n)) (hlt : b < w.heap.size) (hr : l.any (nameIs n) = r) :
    Calls Try.prog 55 #[v, .func (.func 56) #[] #[.pointer (some ⟨b, 0, none⟩)]] w fun e w' => e = .returned (.bool r) ∧ Below w.heap.size w w' := by
  have HR := Lib.hid hr
  clear hr
  go_enter Try.func55, Try.ntmps55
  go_wp2_with (go_at_call 61; refine (indexSto_any l v n b _ (hv.mono hB) hc hlt).mono ?_; rintro e w' ⟨⟨k, rfl, hk⟩, hbw⟩; have HK := Lib.hid hk; clear hk)
  go_ret
  exact ⟨ret_bool (HK.out.trans HR.out), hbw⟩
end Go.Proofs.Ytddapabmfecidaa
