/- The program's plain types as Lean data: entries, pages, records; each with its cells. -/
import Derived.Test.YteclgcnndjcmmaaDoorW
namespace Go.Proofs.YteclgcnndjcmmaaDoor
open Go.RowKit

structure Ent where
  key : List UInt8
  val : List UInt8
  deriving DecidableEq
structure Page where
  id : Int
  lsn : Int
  level : Int
  next : Int
  ents : List Ent
  deriving DecidableEq
structure Redo where
  lsn : Int
  back : Int
  epoch : Int
  group : Int
  page : Int
  kind : Int
  slot : Int
  key : List UInt8
  val : List UInt8
  last : Bool
  deriving DecidableEq

def kEnt : Kd Ent := (kBytes.pair kBytes).iso fun e => (e.key, e.val)
theorem kEnt_open {S : Nat → Prop} {w : World} {x : Ent} {cs : List Value} (h : kEnt.K S w x cs) : ∃ v0 v1, cs = [v0, v1] ∧ Sl kByte S w v0 x.key ∧ Sl kByte S w v1 x.val := by
  obtain ⟨_, _, rfl, ⟨v0, rfl, h0⟩, ⟨v1, rfl, h1⟩⟩ := h
  exact ⟨v0, v1, rfl, h0, h1⟩
theorem kEnt_mk {S : Nat → Prop} {w : World} {x : Ent} {v0 v1 : Value} (h0 : Sl kByte S w v0 x.key) (h1 : Sl kByte S w v1 x.val) : kEnt.K S w x [v0, v1] := ⟨[v0], [v1], rfl, ⟨v0, rfl, h0⟩, ⟨v1, rfl, h1⟩⟩

def kRedo : Kd Redo := (kInt.pair (kInt.pair (kInt.pair (kInt.pair (kInt.pair (kInt.pair (kInt.pair (kBytes.pair (kBytes.pair kBool))))))))).iso fun r => (r.lsn, r.back, r.epoch, r.group, r.page, r.kind, r.slot, r.key, r.val, r.last)
theorem kRedo_open {S : Nat → Prop} {w : World} {x : Redo} {cs : List Value} (h : kRedo.K S w x cs) :
    ∃ v0 v1, cs = [.int .i64 x.lsn, .int .i64 x.back, .int .i64 x.epoch, .int .i64 x.group, .int .i64 x.page, .int .i64 x.kind, .int .i64 x.slot, v0, v1, .bool x.last] ∧ Sl kByte S w v0 x.key ∧ Sl kByte S w v1 x.val := by
  obtain ⟨_, _, rfl, rfl, _, _, rfl, rfl, _, _, rfl, rfl, _, _, rfl, rfl, _, _, rfl, rfl, _, _, rfl, rfl, _, _, rfl, rfl, _, _, rfl, ⟨v0, rfl, h0⟩, _, _, rfl, ⟨v1, rfl, h1⟩, rfl⟩ := h
  exact ⟨v0, v1, rfl, h0, h1⟩
theorem kRedo_mk {S : Nat → Prop} {w : World} {x : Redo} {v0 v1 : Value} (h0 : Sl kByte S w v0 x.key) (h1 : Sl kByte S w v1 x.val) :
    kRedo.K S w x [.int .i64 x.lsn, .int .i64 x.back, .int .i64 x.epoch, .int .i64 x.group, .int .i64 x.page, .int .i64 x.kind, .int .i64 x.slot, v0, v1, .bool x.last] :=
  ⟨[_], _, rfl, rfl, [_], _, rfl, rfl, [_], _, rfl, rfl, [_], _, rfl, rfl, [_], _, rfl, rfl, [_], _, rfl, rfl, [_], _, rfl, rfl, [v0], _, rfl, ⟨v0, rfl, h0⟩, [v1], _, rfl, ⟨v1, rfl, h1⟩, rfl⟩

def kPage : Kd Page := (kInt.pair (kInt.pair (kInt.pair (kInt.pair (kSl kEnt))))).iso fun p => (p.id, p.lsn, p.level, p.next, p.ents)
theorem kPage_open {S : Nat → Prop} {w : World} {x : Page} {cs : List Value} (h : kPage.K S w x cs) :
    ∃ v, cs = [.int .i64 x.id, .int .i64 x.lsn, .int .i64 x.level, .int .i64 x.next, v] ∧ Sl kEnt S w v x.ents := by
  obtain ⟨_, _, rfl, rfl, _, _, rfl, rfl, _, _, rfl, rfl, _, _, rfl, rfl, ⟨v0, rfl, h0⟩⟩ := h
  exact ⟨v0, rfl, h0⟩
theorem kPage_mk {S : Nat → Prop} {w : World} {x : Page} {v : Value} (h : Sl kEnt S w v x.ents) : kPage.K S w x [.int .i64 x.id, .int .i64 x.lsn, .int .i64 x.level, .int .i64 x.next, v] :=
  ⟨[_], _, rfl, rfl, [_], _, rfl, rfl, [_], _, rfl, rfl, [_], _, rfl, rfl, ⟨v, rfl, h⟩⟩
end Go.Proofs.YteclgcnndjcmmaaDoor
