/- Shops of wicks in cells. -/
import Derived.Test.YteebihcdgpfldaaGreatV3
namespace Go.Proofs.YteebihcdgpfldaaGreat
open Go.RowKit
def rdWick : Rd Wick where
 sz := 4
 rd _ w b o x := w.cell? ⟨b, o, none⟩ = some (.string x.name) ∧ w.cell? ⟨b, o + 1, none⟩ = some (.int .i64 x.threads) ∧ w.cell? ⟨b, o + 2, none⟩ = some (.int .i64 x.pull.1) ∧
  w.cell? ⟨b, o + 3, none⟩ = some (.int .i64 x.pull.2) ∧ x.name.size ≤ 1000000000000000
 below hbb hb h := ⟨(hb.cell (p := ⟨_, _, none⟩) hbb).trans h.1, (hb.cell (p := ⟨_, _, none⟩) hbb).trans h.2.1, (hb.cell (p := ⟨_, _, none⟩) hbb).trans h.2.2.1,
  (hb.cell (p := ⟨_, _, none⟩) hbb).trans h.2.2.2.1, h.2.2.2.2⟩
 mono _ h := h
def rdWax : Rd Wax where
 sz := 8
 rd _ w b o x := w.cell? ⟨b, o, none⟩ = some (.string x.name) ∧ w.cell? ⟨b, o + 1, none⟩ = some (.int .i64 x.flow.1) ∧ w.cell? ⟨b, o + 2, none⟩ = some (.int .i64 x.flow.2) ∧
  w.cell? ⟨b, o + 3, none⟩ = some (.int .i64 x.rise.1) ∧ w.cell? ⟨b, o + 4, none⟩ = some (.int .i64 x.rise.2) ∧ w.cell? ⟨b, o + 5, none⟩ = some (.int .i64 x.spread.1) ∧
  w.cell? ⟨b, o + 6, none⟩ = some (.int .i64 x.spread.2) ∧ w.cell? ⟨b, o + 7, none⟩ = some (.int .i64 x.chill) ∧ x.name.size ≤ 1000000000000000
 below hbb hb h := ⟨(hb.cell (p := ⟨_, _, none⟩) hbb).trans h.1, (hb.cell (p := ⟨_, _, none⟩) hbb).trans h.2.1, (hb.cell (p := ⟨_, _, none⟩) hbb).trans h.2.2.1,
  (hb.cell (p := ⟨_, _, none⟩) hbb).trans h.2.2.2.1, (hb.cell (p := ⟨_, _, none⟩) hbb).trans h.2.2.2.2.1, (hb.cell (p := ⟨_, _, none⟩) hbb).trans h.2.2.2.2.2.1,
  (hb.cell (p := ⟨_, _, none⟩) hbb).trans h.2.2.2.2.2.2.1, (hb.cell (p := ⟨_, _, none⟩) hbb).trans h.2.2.2.2.2.2.2.1, h.2.2.2.2.2.2.2.2⟩
 mono _ h := h
abbrev WicksIn := SlIn rdWick
abbrev WaxesIn := SlIn rdWax
/-- Two slices are those of a shop. -/
def WShopAt (B : Nat) (w : World) (vw vx : Value) (s : WShop) : Prop := WicksIn B w vw s.wicks ∧ WaxesIn B w vx s.waxes
theorem WShopAt.below {B : Nat} {w w' : World} {vw vx : Value} {s : WShop} (h : WShopAt B w vw vx s) (hb : Below B w w') : WShopAt B w' vw vx s := ⟨h.1.below hb, h.2.below hb⟩
theorem WShopAt.mono {B B' : Nat} {w : World} {vw vx : Value} {s : WShop} (h : WShopAt B w vw vx s) (hb : B ≤ B') : WShopAt B' w vw vx s := ⟨h.1.mono hb, h.2.mono hb⟩
theorem WShopAt.next {w w' : World} {vw vx : Value} {s : WShop} (h : WShopAt w.heap.size w vw vx s) (hb : Below w.heap.size w w') : WShopAt w'.heap.size w' vw vx s := (h.below hb).mono hb.size
abbrev wshopC (vw vx : Value) (s : WShop) : Array Value := #[vw, vx, .int .i64 s.flame.1, .int .i64 s.flame.2, .int .i64 s.pool.1, .int .i64 s.pool.2]
abbrev candC (c : Candle) : Array Value := #[.int .i64 c.wax, .int .i64 c.dia, .int .i64 c.draught, .int .i64 c.cold.1, .int .i64 c.cold.2]
abbrev wtruC (t : WTru) : Array Value := #[.int .i64 t.pull, .int .i64 t.flow, .int .i64 t.rise, .int .i64 t.spread, .int .i64 t.draught, .int .i64 t.cold]
abbrev burnC (b : Burn) : Array Value := #[.int .i64 b.rate, .int .i64 b.flame, .int .i64 b.pool]
end Go.Proofs.YteebihcdgpfldaaGreat
