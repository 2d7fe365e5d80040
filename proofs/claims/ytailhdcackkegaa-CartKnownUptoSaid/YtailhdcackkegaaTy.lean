/- The program's structs as this session's Lean structures, and how they read in memory. -/
import Derived.Test.YtailhdcackkegaaWd
namespace Go.Proofs.Ytailhdcackkegaa.Wd
open Go.RowKit

@[ext] structure Dot where
  o : Int
  s : Int
deriving DecidableEq
@[ext] structure Ev where
  dot : Dot
  deps : List Int
  cart : ByteArray
  epoch : Int
  sku : ByteArray
  qty : Int
  clears : Bool
deriving DecidableEq
@[ext] structure Ln where
  sku : ByteArray
  qty : Int
deriving DecidableEq
@[ext] structure Seal where
  token : ByteArray
  cart : ByteArray
  epoch : Int
  cut : List Int
deriving DecidableEq

@[ext] structure Bal where
  r : Int
  n : Int
deriving DecidableEq
@[ext] structure Ent where
  noop : Bool
  sl : Seal
deriving DecidableEq
@[ext] structure Vot where
  slot : Int
  bal : Bal
  ent : Ent
deriving DecidableEq

@[ext] structure Art where
  cart : ByteArray
  sku : ByteArray
deriving DecidableEq

abbrev kInt : Kd Int := Kd.int .i64
theorem kInt_sz : 0 < kInt.sz := by decide
abbrev kInts : Kd (List Int) := kInt.sl kInt_sz
def kDot : Kd Dot := (kInt.pair kInt).via fun d => (d.o, d.s)
def kEv : Kd Ev := (kDot.pair (kInts.pair (Kd.str.pair (kInt.pair (Kd.str.pair (kInt.pair Kd.bool)))))).via fun e => (e.dot, e.deps, e.cart, e.epoch, e.sku, e.qty, e.clears)
def kLn : Kd Ln := (Kd.str.pair kInt).via fun l => (l.sku, l.qty)
def kSeal : Kd Seal := (Kd.str.pair (Kd.str.pair (kInt.pair kInts))).via fun s => (s.token, s.cart, s.epoch, s.cut)
def kBal : Kd Bal := (kInt.pair kInt).via fun d => (d.r, d.n)
def kEnt : Kd Ent := (Kd.bool.pair kSeal).via fun d => (d.noop, d.sl)
def kVot : Kd Vot := (kInt.pair (kBal.pair kEnt)).via fun d => (d.slot, d.bal, d.ent)
theorem kEnt_pos : 0 < kEnt.sz := by decide
theorem kVot_pos : 0 < kVot.sz := by decide
theorem kDot_sz : kDot.sz = 2 := rfl
theorem kEv_sz : kEv.sz = 8 := rfl
theorem kLn_sz : kLn.sz = 2 := rfl
theorem kSeal_sz : kSeal.sz = 4 := rfl
theorem kEv_pos : 0 < kEv.sz := by decide
theorem kLn_pos : 0 < kLn.sz := by decide
theorem kSeal_pos : 0 < kSeal.sz := by decide

section
variable {ok : Nat → Prop} {w : World} {cs : List Value}
theorem kDot_cells {x : Dot} : kDot.rd ok w cs x ↔ cs = [.int .i64 x.o, .int .i64 x.s] := by
  constructor
  · rintro ⟨c1, c2, rfl, h1, h2⟩
    rw [show c1 = _ from h1, show c2 = _ from h2]; rfl
  · rintro rfl
    exact ⟨[.int .i64 x.o], [.int .i64 x.s], rfl, rfl, rfl⟩
theorem kLn_cells {x : Ln} : kLn.rd ok w cs x ↔ cs = [.string x.sku, .int .i64 x.qty] := by
  constructor
  · rintro ⟨c1, c2, rfl, h1, h2⟩
    rw [show c1 = _ from h1, show c2 = _ from h2]; rfl
  · rintro rfl
    exact ⟨[.string x.sku], [.int .i64 x.qty], rfl, rfl, rfl⟩
theorem kSeal_cells {x : Seal} : kSeal.rd ok w cs x ↔ ∃ v, cs = [.string x.token, .string x.cart, .int .i64 x.epoch, v] ∧ Sl kInt ok w v x.cut := by
  constructor
  · rintro ⟨c1, c2, rfl, h1, c3, c4, rfl, h3, c5, c6, rfl, h5, v, rfl, h6⟩
    rw [show c1 = _ from h1, show c3 = _ from h3, show c5 = _ from h5]
    exact ⟨v, rfl, h6⟩
  · rintro ⟨v, rfl, h⟩
    exact ⟨[_], [_, _, _], rfl, rfl, [_], [_, _], rfl, rfl, [_], [_], rfl, rfl, v, rfl, h⟩
theorem kEv_cells {x : Ev} : kEv.rd ok w cs x ↔ ∃ v, cs = [.int .i64 x.dot.o, .int .i64 x.dot.s, v, .string x.cart, .int .i64 x.epoch, .string x.sku, .int .i64 x.qty, .bool x.clears] ∧ Sl kInt ok w v x.deps := by
  constructor
  · rintro ⟨c1, c2, rfl, h1, c3, c4, rfl, ⟨v, rfl, h6⟩, c5, c6, rfl, h5, c7, c8, rfl, h7, c9, c10, rfl, h9, c11, c12, rfl, h11, h12⟩
    rw [kDot_cells.1 h1, show c5 = _ from h5, show c7 = _ from h7, show c9 = _ from h9, show c11 = _ from h11, show c12 = _ from h12]
    exact ⟨v, rfl, h6⟩
  · rintro ⟨v, rfl, h⟩
    exact ⟨[_, _], [_, _, _, _, _, _], rfl, kDot_cells.2 rfl, [v], [_, _, _, _, _], rfl, ⟨v, rfl, h⟩, [_], [_, _, _, _], rfl, rfl, [_], [_, _, _], rfl, rfl, [_], [_, _], rfl, rfl, [_], [_], rfl, rfl, rfl⟩
theorem kBal_cells {x : Bal} : kBal.rd ok w cs x ↔ cs = [.int .i64 x.r, .int .i64 x.n] := by
  constructor
  · rintro ⟨c1, c2, rfl, h1, h2⟩
    rw [show c1 = _ from h1, show c2 = _ from h2]; rfl
  · rintro rfl
    exact ⟨[.int .i64 x.r], [.int .i64 x.n], rfl, rfl, rfl⟩
theorem kEnt_cells {x : Ent} : kEnt.rd ok w cs x ↔ ∃ v, cs = [.bool x.noop, .string x.sl.token, .string x.sl.cart, .int .i64 x.sl.epoch, v] ∧ Sl kInt ok w v x.sl.cut := by
  constructor
  · rintro ⟨c1, c2, rfl, h1, h2⟩
    obtain ⟨v, rfl, h⟩ := kSeal_cells.1 h2
    rw [show c1 = _ from h1]
    exact ⟨v, rfl, h⟩
  · rintro ⟨v, rfl, h⟩
    exact ⟨[_], [_, _, _, _], rfl, rfl, kSeal_cells.2 ⟨v, rfl, h⟩⟩
theorem kVot_cells {x : Vot} : kVot.rd ok w cs x ↔ ∃ v, cs = [.int .i64 x.slot, .int .i64 x.bal.r, .int .i64 x.bal.n, .bool x.ent.noop, .string x.ent.sl.token, .string x.ent.sl.cart, .int .i64 x.ent.sl.epoch, v] ∧ Sl kInt ok w v x.ent.sl.cut := by
  constructor
  · rintro ⟨c1, c2, rfl, h1, c3, c4, rfl, h3, h4⟩
    obtain ⟨v, rfl, h⟩ := kEnt_cells.1 h4
    rw [show c1 = _ from h1, kBal_cells.1 h3]
    exact ⟨v, rfl, h⟩
  · rintro ⟨v, rfl, h⟩
    exact ⟨[_], [_, _, _, _, _, _, _], rfl, rfl, [_, _], [_, _, _, _, _], rfl, kBal_cells.2 rfl, kEnt_cells.2 ⟨v, rfl, h⟩⟩
end
end Go.Proofs.Ytailhdcackkegaa.Wd
