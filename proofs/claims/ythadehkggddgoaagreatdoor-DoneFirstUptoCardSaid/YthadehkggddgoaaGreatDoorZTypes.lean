/- The table of types of this seat's program: written by tools/gentab.sh. -/
import Derived.Test.YthadehkggddgoaaGreatDoorRows
import Derived.Test.YthadehkggddgoaaGreatDoorAE11
set_option linter.unusedVariables false
set_option maxRecDepth 20000
namespace Go.Proofs.YthadehkggddgoaaGreatDoor
open Go
theorem ty1 : AE.TypeOK Tryz.prog 1 ⟨.other, 1, 8, [Value.nilFunc]⟩ := AE.TypeOK.of (Tryz.isAgg1) Tryz.type1 rfl rfl rfl rfl rfl rfl (fun h => rfl)
theorem ty2 : AE.TypeOK Tryz.prog 2 ⟨.int IntKind.i64, 1, 8, [Value.int IntKind.i64 0]⟩ := AE.TypeOK.of (Tryz.underlying2) Tryz.type2 rfl rfl rfl rfl rfl rfl (fun h => rfl)
theorem ty3 : AE.TypeOK Tryz.prog 3 ⟨.int IntKind.i64, 1, 8, [Value.int IntKind.i64 0]⟩ := AE.TypeOK.of (Tryz.underlying3) Tryz.type3 rfl rfl rfl rfl rfl rfl (fun h => rfl)
theorem ty4 : AE.TypeOK Tryz.prog 4 ⟨.bool, 1, 1, [Value.bool false]⟩ := AE.TypeOK.of (Tryz.underlying4) Tryz.type4 rfl rfl rfl rfl rfl rfl (fun h => rfl)
theorem ty5 : AE.TypeOK Tryz.prog 5 ⟨.int IntKind.u8, 1, 1, [Value.int IntKind.u8 0]⟩ := AE.TypeOK.of (Tryz.underlying5) Tryz.type5 rfl rfl rfl rfl rfl rfl (fun h => rfl)
theorem ty6 : AE.TypeOK Tryz.prog 6 ⟨.int IntKind.u8, 1, 1, [Value.int IntKind.u8 0]⟩ := AE.TypeOK.of (Tryz.underlying6) Tryz.type6 rfl rfl rfl rfl rfl rfl (fun h => rfl)
theorem ty7 : AE.TypeOK Tryz.prog 7 ⟨.struct [(0, 1, false), (1, 1, false), (2, 1, false), (3, 1, false)] (some [2, 3, 4, 6]), 4, 24, [Value.int IntKind.i64 0, Value.int IntKind.i64 0, Value.bool false, Value.int IntKind.u8 0]⟩ := AE.TypeOK.of (AE.KindOK.structEq Tryz.underlying7 ⟨⟨rfl, AE.size_of Tryz.type2 rfl, Tryz.isAgg2, fun _ => rfl⟩, ⟨rfl, AE.size_of Tryz.type3 rfl, Tryz.isAgg3, fun _ => rfl⟩, ⟨rfl, AE.size_of Tryz.type4 rfl, Tryz.isAgg4, fun _ => rfl⟩, ⟨rfl, AE.size_of Tryz.type6 rfl, Tryz.isAgg6, fun _ => rfl⟩, trivial⟩ (by kernel_rfl) (by kernel_rfl) ⟨⟨rfl, by decide⟩, ⟨rfl, by decide⟩, ⟨rfl, by decide⟩, ⟨rfl, by decide⟩, trivial⟩) Tryz.type7 rfl rfl rfl rfl rfl rfl (fun h => by cases h)
theorem ty8 : AE.TypeOK Tryz.prog 8 ⟨.struct [(0, 1, false), (1, 1, false), (2, 1, false), (3, 1, false)] (some [2, 3, 4, 6]), 4, 24, [Value.int IntKind.i64 0, Value.int IntKind.i64 0, Value.bool false, Value.int IntKind.u8 0]⟩ := AE.TypeOK.of (AE.KindOK.structEq Tryz.underlying8 ⟨⟨rfl, AE.size_of Tryz.type2 rfl, Tryz.isAgg2, fun _ => rfl⟩, ⟨rfl, AE.size_of Tryz.type3 rfl, Tryz.isAgg3, fun _ => rfl⟩, ⟨rfl, AE.size_of Tryz.type4 rfl, Tryz.isAgg4, fun _ => rfl⟩, ⟨rfl, AE.size_of Tryz.type6 rfl, Tryz.isAgg6, fun _ => rfl⟩, trivial⟩ (by kernel_rfl) (by kernel_rfl) ⟨⟨rfl, by decide⟩, ⟨rfl, by decide⟩, ⟨rfl, by decide⟩, ⟨rfl, by decide⟩, trivial⟩) Tryz.type8 rfl rfl rfl rfl rfl rfl (fun h => by cases h)
theorem ty9 : AE.TypeOK Tryz.prog 9 ⟨.str, 1, 16, [Value.string { data := #[] }]⟩ := AE.TypeOK.of (Tryz.underlying9) Tryz.type9 rfl rfl rfl rfl rfl rfl (fun h => rfl)
theorem ty10 : AE.TypeOK Tryz.prog 10 ⟨.str, 1, 16, [Value.string { data := #[] }]⟩ := AE.TypeOK.of (Tryz.underlying10) Tryz.type10 rfl rfl rfl rfl rfl rfl (fun h => rfl)
theorem ty11 : AE.TypeOK Tryz.prog 11 ⟨.str, 1, 16, [Value.string { data := #[] }]⟩ := AE.TypeOK.of (Tryz.underlying11) Tryz.type11 rfl rfl rfl rfl rfl rfl (fun h => rfl)
theorem ty12 : AE.TypeOK Tryz.prog 12 ⟨.int IntKind.u64, 1, 8, [Value.int IntKind.u64 0]⟩ := AE.TypeOK.of (Tryz.underlying12) Tryz.type12 rfl rfl rfl rfl rfl rfl (fun h => rfl)
theorem ty13 : AE.TypeOK Tryz.prog 13 ⟨.struct [(0, 1, false), (1, 1, false)] none, 2, 24, [Value.string { data := #[] }, Value.int IntKind.u64 0]⟩ := AE.TypeOK.of (AE.KindOK.struct Tryz.underlying13 ⟨⟨rfl, AE.size_of Tryz.type9 rfl, Tryz.isAgg9, fun _ => rfl⟩, ⟨rfl, AE.size_of Tryz.type12 rfl, Tryz.isAgg12, fun _ => rfl⟩, trivial⟩) Tryz.type13 rfl rfl rfl rfl rfl rfl (fun h => by cases h)
theorem ty14 : AE.TypeOK Tryz.prog 14 ⟨.struct [(0, 1, false), (1, 1, false)] none, 2, 24, [Value.string { data := #[] }, Value.int IntKind.u64 0]⟩ := AE.TypeOK.of (AE.KindOK.struct Tryz.underlying14 ⟨⟨rfl, AE.size_of Tryz.type9 rfl, Tryz.isAgg9, fun _ => rfl⟩, ⟨rfl, AE.size_of Tryz.type12 rfl, Tryz.isAgg12, fun _ => rfl⟩, trivial⟩) Tryz.type14 rfl rfl rfl rfl rfl rfl (fun h => by cases h)
theorem ty15 : AE.TypeOK Tryz.prog 15 ⟨.ptr 289, 1, 8, [Value.pointer none]⟩ := AE.TypeOK.of (Tryz.underlying15) Tryz.type15 rfl rfl rfl rfl rfl rfl (fun h => rfl)
theorem ty16 : AE.TypeOK Tryz.prog 16 ⟨.ptr 292, 1, 8, [Value.pointer none]⟩ := AE.TypeOK.of (Tryz.underlying16) Tryz.type16 rfl rfl rfl rfl rfl rfl (fun h => rfl)
theorem ty17 : AE.TypeOK Tryz.prog 17 ⟨.ptr 301, 1, 8, [Value.pointer none]⟩ := AE.TypeOK.of (Tryz.underlying17) Tryz.type17 rfl rfl rfl rfl rfl rfl (fun h => rfl)
theorem ty18 : AE.TypeOK Tryz.prog 18 ⟨.struct [(0, 1, false)] none, 1, 8, [Value.pointer none]⟩ := AE.TypeOK.of (AE.KindOK.struct Tryz.underlying18 ⟨⟨rfl, AE.size_of Tryz.type17 rfl, Tryz.isAgg17, fun _ => rfl⟩, trivial⟩) Tryz.type18 rfl rfl rfl rfl rfl rfl (fun h => by cases h)
theorem ty19 : AE.TypeOK Tryz.prog 19 ⟨.struct [(0, 1, false)] none, 1, 8, [Value.pointer none]⟩ := AE.TypeOK.of (AE.KindOK.struct Tryz.underlying19 ⟨⟨rfl, AE.size_of Tryz.type17 rfl, Tryz.isAgg17, fun _ => rfl⟩, trivial⟩) Tryz.type19 rfl rfl rfl rfl rfl rfl (fun h => by cases h)
theorem ty20 : AE.TypeOK Tryz.prog 20 ⟨.iface, 1, 16, [Value.nilIface]⟩ := AE.TypeOK.of (⟨_, Tryz.underlying20⟩) Tryz.type20 rfl rfl rfl rfl rfl rfl (fun h => rfl)
theorem ty21 : AE.TypeOK Tryz.prog 21 ⟨.int IntKind.i32, 1, 4, [Value.int IntKind.i32 0]⟩ := AE.TypeOK.of (Tryz.underlying21) Tryz.type21 rfl rfl rfl rfl rfl rfl (fun h => rfl)
theorem ty22 : AE.TypeOK Tryz.prog 22 ⟨.slice 3, 1, 24, [Value.slice none 0 0]⟩ := AE.TypeOK.of (Tryz.underlying22) Tryz.type22 rfl rfl rfl rfl rfl rfl (fun h => rfl)
theorem ty23 : AE.TypeOK Tryz.prog 23 ⟨.slice 79, 1, 24, [Value.slice none 0 0]⟩ := AE.TypeOK.of (Tryz.underlying23) Tryz.type23 rfl rfl rfl rfl rfl rfl (fun h => rfl)
theorem ty24 : AE.TypeOK Tryz.prog 24 ⟨.slice 34, 1, 24, [Value.slice none 0 0]⟩ := AE.TypeOK.of (Tryz.underlying24) Tryz.type24 rfl rfl rfl rfl rfl rfl (fun h => rfl)
theorem ty25 : AE.TypeOK Tryz.prog 25 ⟨.slice 99, 1, 24, [Value.slice none 0 0]⟩ := AE.TypeOK.of (Tryz.underlying25) Tryz.type25 rfl rfl rfl rfl rfl rfl (fun h => rfl)
theorem ty26 : AE.TypeOK Tryz.prog 26 ⟨.slice 68, 1, 24, [Value.slice none 0 0]⟩ := AE.TypeOK.of (Tryz.underlying26) Tryz.type26 rfl rfl rfl rfl rfl rfl (fun h => rfl)
theorem ty27 : AE.TypeOK Tryz.prog 27 ⟨.slice 48, 1, 24, [Value.slice none 0 0]⟩ := AE.TypeOK.of (Tryz.underlying27) Tryz.type27 rfl rfl rfl rfl rfl rfl (fun h => rfl)
theorem ty28 : AE.TypeOK Tryz.prog 28 ⟨.struct [(0, 1, false), (1, 1, false), (2, 1, false)] (some [4, 9, 9]), 3, 40, [Value.bool false, Value.string { data := #[] }, Value.string { data := #[] }]⟩ := AE.TypeOK.of (AE.KindOK.structEq Tryz.underlying28 ⟨⟨rfl, AE.size_of Tryz.type4 rfl, Tryz.isAgg4, fun _ => rfl⟩, ⟨rfl, AE.size_of Tryz.type9 rfl, Tryz.isAgg9, fun _ => rfl⟩, ⟨rfl, AE.size_of Tryz.type9 rfl, Tryz.isAgg9, fun _ => rfl⟩, trivial⟩ (by kernel_rfl) (by kernel_rfl) ⟨⟨rfl, by decide⟩, ⟨rfl, by decide⟩, ⟨rfl, by decide⟩, trivial⟩) Tryz.type28 rfl rfl rfl rfl rfl rfl (fun h => by cases h)
theorem ty29 : AE.TypeOK Tryz.prog 29 ⟨.struct [(0, 1, false), (1, 1, false), (2, 1, false)] (some [4, 9, 9]), 3, 40, [Value.bool false, Value.string { data := #[] }, Value.string { data := #[] }]⟩ := AE.TypeOK.of (AE.KindOK.structEq Tryz.underlying29 ⟨⟨rfl, AE.size_of Tryz.type4 rfl, Tryz.isAgg4, fun _ => rfl⟩, ⟨rfl, AE.size_of Tryz.type9 rfl, Tryz.isAgg9, fun _ => rfl⟩, ⟨rfl, AE.size_of Tryz.type9 rfl, Tryz.isAgg9, fun _ => rfl⟩, trivial⟩ (by kernel_rfl) (by kernel_rfl) ⟨⟨rfl, by decide⟩, ⟨rfl, by decide⟩, ⟨rfl, by decide⟩, trivial⟩) Tryz.type29 rfl rfl rfl rfl rfl rfl (fun h => by cases h)
theorem ty30 : AE.TypeOK Tryz.prog 30 ⟨.struct [(0, 1, false), (1, 1, false), (2, 1, false), (3, 1, false), (4, 1, false), (5, 3, true)] none, 8, 160, [Value.slice none 0 0, Value.slice none 0 0, Value.slice none 0 0, Value.slice none 0 0,
  Value.slice none 0 0, Value.bool false, Value.string { data := #[] }, Value.string { data := #[] }]⟩ := AE.TypeOK.of (AE.KindOK.struct Tryz.underlying30 ⟨⟨rfl, AE.size_of Tryz.type23 rfl, Tryz.isAgg23, fun _ => rfl⟩, ⟨rfl, AE.size_of Tryz.type24 rfl, Tryz.isAgg24, fun _ => rfl⟩, ⟨rfl, AE.size_of Tryz.type25 rfl, Tryz.isAgg25, fun _ => rfl⟩, ⟨rfl, AE.size_of Tryz.type26 rfl, Tryz.isAgg26, fun _ => rfl⟩, ⟨rfl, AE.size_of Tryz.type27 rfl, Tryz.isAgg27, fun _ => rfl⟩, ⟨rfl, AE.size_of Tryz.type29 rfl, Tryz.isAgg29, fun h => by cases h⟩, trivial⟩) Tryz.type30 rfl rfl rfl rfl rfl rfl (fun h => by cases h)
theorem ty31 : AE.TypeOK Tryz.prog 31 ⟨.struct [(0, 1, false), (1, 1, false), (2, 1, false), (3, 1, false), (4, 1, false), (5, 3, true)] none, 8, 160, [Value.slice none 0 0, Value.slice none 0 0, Value.slice none 0 0, Value.slice none 0 0,
  Value.slice none 0 0, Value.bool false, Value.string { data := #[] }, Value.string { data := #[] }]⟩ := AE.TypeOK.of (AE.KindOK.struct Tryz.underlying31 ⟨⟨rfl, AE.size_of Tryz.type23 rfl, Tryz.isAgg23, fun _ => rfl⟩, ⟨rfl, AE.size_of Tryz.type24 rfl, Tryz.isAgg24, fun _ => rfl⟩, ⟨rfl, AE.size_of Tryz.type25 rfl, Tryz.isAgg25, fun _ => rfl⟩, ⟨rfl, AE.size_of Tryz.type26 rfl, Tryz.isAgg26, fun _ => rfl⟩, ⟨rfl, AE.size_of Tryz.type27 rfl, Tryz.isAgg27, fun _ => rfl⟩, ⟨rfl, AE.size_of Tryz.type29 rfl, Tryz.isAgg29, fun h => by cases h⟩, trivial⟩) Tryz.type31 rfl rfl rfl rfl rfl rfl (fun h => by cases h)
theorem ty32 : AE.TypeOK Tryz.prog 32 ⟨.slice 76, 1, 24, [Value.slice none 0 0]⟩ := AE.TypeOK.of (Tryz.underlying32) Tryz.type32 rfl rfl rfl rfl rfl rfl (fun h => rfl)
theorem ty33 : AE.TypeOK Tryz.prog 33 ⟨.slice 66, 1, 24, [Value.slice none 0 0]⟩ := AE.TypeOK.of (Tryz.underlying33) Tryz.type33 rfl rfl rfl rfl rfl rfl (fun h => rfl)
theorem ty34 : AE.TypeOK Tryz.prog 34 ⟨.slice 44, 1, 24, [Value.slice none 0 0]⟩ := AE.TypeOK.of (Tryz.underlying34) Tryz.type34 rfl rfl rfl rfl rfl rfl (fun h => rfl)
theorem ty35 : AE.TypeOK Tryz.prog 35 ⟨.slice 4, 1, 24, [Value.slice none 0 0]⟩ := AE.TypeOK.of (Tryz.underlying35) Tryz.type35 rfl rfl rfl rfl rfl rfl (fun h => rfl)
theorem ty36 : AE.TypeOK Tryz.prog 36 ⟨.struct [(0, 1, false), (1, 1, false), (2, 1, false), (3, 1, false), (4, 1, false)] none, 5, 104, [Value.int IntKind.i64 0, Value.slice none 0 0, Value.slice none 0 0, Value.slice none 0 0,
  Value.slice none 0 0]⟩ := AE.TypeOK.of (AE.KindOK.struct Tryz.underlying36 ⟨⟨rfl, AE.size_of Tryz.type3 rfl, Tryz.isAgg3, fun _ => rfl⟩, ⟨rfl, AE.size_of Tryz.type32 rfl, Tryz.isAgg32, fun _ => rfl⟩, ⟨rfl, AE.size_of Tryz.type33 rfl, Tryz.isAgg33, fun _ => rfl⟩, ⟨rfl, AE.size_of Tryz.type34 rfl, Tryz.isAgg34, fun _ => rfl⟩, ⟨rfl, AE.size_of Tryz.type35 rfl, Tryz.isAgg35, fun _ => rfl⟩, trivial⟩) Tryz.type36 rfl rfl rfl rfl rfl rfl (fun h => by cases h)
theorem ty37 : AE.TypeOK Tryz.prog 37 ⟨.struct [(0, 1, false), (1, 1, false), (2, 1, false), (3, 1, false), (4, 1, false)] none, 5, 104, [Value.int IntKind.i64 0, Value.slice none 0 0, Value.slice none 0 0, Value.slice none 0 0,
  Value.slice none 0 0]⟩ := AE.TypeOK.of (AE.KindOK.struct Tryz.underlying37 ⟨⟨rfl, AE.size_of Tryz.type3 rfl, Tryz.isAgg3, fun _ => rfl⟩, ⟨rfl, AE.size_of Tryz.type32 rfl, Tryz.isAgg32, fun _ => rfl⟩, ⟨rfl, AE.size_of Tryz.type33 rfl, Tryz.isAgg33, fun _ => rfl⟩, ⟨rfl, AE.size_of Tryz.type34 rfl, Tryz.isAgg34, fun _ => rfl⟩, ⟨rfl, AE.size_of Tryz.type35 rfl, Tryz.isAgg35, fun _ => rfl⟩, trivial⟩) Tryz.type37 rfl rfl rfl rfl rfl rfl (fun h => by cases h)
theorem ty39 : AE.TypeOK Tryz.prog 39 ⟨.other, 1, 8, [Value.nilFunc]⟩ := AE.TypeOK.of (Tryz.isAgg39) Tryz.type39 rfl rfl rfl rfl rfl rfl (fun h => rfl)
theorem ty40 : AE.TypeOK Tryz.prog 40 ⟨.int IntKind.i64, 1, 8, [Value.int IntKind.i64 0]⟩ := AE.TypeOK.of (Tryz.underlying40) Tryz.type40 rfl rfl rfl rfl rfl rfl (fun h => rfl)
theorem ty42 : AE.TypeOK Tryz.prog 42 ⟨.other, 1, 8, [Value.nilFunc]⟩ := AE.TypeOK.of (Tryz.isAgg42) Tryz.type42 rfl rfl rfl rfl rfl rfl (fun h => rfl)
theorem ty43 : AE.TypeOK Tryz.prog 43 ⟨.struct [(0, 3, true), (3, 3, true)] (some [29, 29]), 6, 80, [Value.bool false, Value.string { data := #[] }, Value.string { data := #[] }, Value.bool false,
  Value.string { data := #[] }, Value.string { data := #[] }]⟩ := AE.TypeOK.of (AE.KindOK.structEq Tryz.underlying43 ⟨⟨rfl, AE.size_of Tryz.type29 rfl, Tryz.isAgg29, fun h => by cases h⟩, ⟨rfl, AE.size_of Tryz.type29 rfl, Tryz.isAgg29, fun h => by cases h⟩, trivial⟩ (by kernel_rfl) (by kernel_rfl) ⟨⟨rfl, by decide⟩, ⟨rfl, by decide⟩, trivial⟩) Tryz.type43 rfl rfl rfl rfl rfl rfl (fun h => by cases h)
theorem ty44 : AE.TypeOK Tryz.prog 44 ⟨.struct [(0, 3, true), (3, 3, true)] (some [29, 29]), 6, 80, [Value.bool false, Value.string { data := #[] }, Value.string { data := #[] }, Value.bool false,
  Value.string { data := #[] }, Value.string { data := #[] }]⟩ := AE.TypeOK.of (AE.KindOK.structEq Tryz.underlying44 ⟨⟨rfl, AE.size_of Tryz.type29 rfl, Tryz.isAgg29, fun h => by cases h⟩, ⟨rfl, AE.size_of Tryz.type29 rfl, Tryz.isAgg29, fun h => by cases h⟩, trivial⟩ (by kernel_rfl) (by kernel_rfl) ⟨⟨rfl, by decide⟩, ⟨rfl, by decide⟩, trivial⟩) Tryz.type44 rfl rfl rfl rfl rfl rfl (fun h => by cases h)
theorem ty45 : AE.TypeOK Tryz.prog 45 ⟨.struct [(0, 6, true), (6, 6, true)] (some [44, 44]), 12, 160, [Value.bool false, Value.string { data := #[] }, Value.string { data := #[] }, Value.bool false,
  Value.string { data := #[] }, Value.string { data := #[] }, Value.bool false,
  Value.string { data := #[] }, Value.string { data := #[] }, Value.bool false,
  Value.string { data := #[] }, Value.string { data := #[] }]⟩ := AE.TypeOK.of (AE.KindOK.structEq Tryz.underlying45 ⟨⟨rfl, AE.size_of Tryz.type44 rfl, Tryz.isAgg44, fun h => by cases h⟩, ⟨rfl, AE.size_of Tryz.type44 rfl, Tryz.isAgg44, fun h => by cases h⟩, trivial⟩ (by kernel_rfl) (by kernel_rfl) ⟨⟨rfl, by decide⟩, ⟨rfl, by decide⟩, trivial⟩) Tryz.type45 rfl rfl rfl rfl rfl rfl (fun h => by cases h)
theorem ty46 : AE.TypeOK Tryz.prog 46 ⟨.struct [(0, 6, true), (6, 6, true)] (some [44, 44]), 12, 160, [Value.bool false, Value.string { data := #[] }, Value.string { data := #[] }, Value.bool false,
  Value.string { data := #[] }, Value.string { data := #[] }, Value.bool false,
  Value.string { data := #[] }, Value.string { data := #[] }, Value.bool false,
  Value.string { data := #[] }, Value.string { data := #[] }]⟩ := AE.TypeOK.of (AE.KindOK.structEq Tryz.underlying46 ⟨⟨rfl, AE.size_of Tryz.type44 rfl, Tryz.isAgg44, fun h => by cases h⟩, ⟨rfl, AE.size_of Tryz.type44 rfl, Tryz.isAgg44, fun h => by cases h⟩, trivial⟩ (by kernel_rfl) (by kernel_rfl) ⟨⟨rfl, by decide⟩, ⟨rfl, by decide⟩, trivial⟩) Tryz.type46 rfl rfl rfl rfl rfl rfl (fun h => by cases h)
theorem ty47 : AE.TypeOK Tryz.prog 47 ⟨.struct [(0, 1, false), (1, 12, true)] (some [9, 46]), 13, 176, [Value.string { data := #[] }, Value.bool false, Value.string { data := #[] }, Value.string { data := #[] },
  Value.bool false, Value.string { data := #[] }, Value.string { data := #[] }, Value.bool false,
  Value.string { data := #[] }, Value.string { data := #[] }, Value.bool false,
  Value.string { data := #[] }, Value.string { data := #[] }]⟩ := AE.TypeOK.of (AE.KindOK.structEq Tryz.underlying47 ⟨⟨rfl, AE.size_of Tryz.type9 rfl, Tryz.isAgg9, fun _ => rfl⟩, ⟨rfl, AE.size_of Tryz.type46 rfl, Tryz.isAgg46, fun h => by cases h⟩, trivial⟩ (by kernel_rfl) (by kernel_rfl) ⟨⟨rfl, by decide⟩, ⟨rfl, by decide⟩, trivial⟩) Tryz.type47 rfl rfl rfl rfl rfl rfl (fun h => by cases h)
theorem ty48 : AE.TypeOK Tryz.prog 48 ⟨.struct [(0, 1, false), (1, 12, true)] (some [9, 46]), 13, 176, [Value.string { data := #[] }, Value.bool false, Value.string { data := #[] }, Value.string { data := #[] },
  Value.bool false, Value.string { data := #[] }, Value.string { data := #[] }, Value.bool false,
  Value.string { data := #[] }, Value.string { data := #[] }, Value.bool false,
  Value.string { data := #[] }, Value.string { data := #[] }]⟩ := AE.TypeOK.of (AE.KindOK.structEq Tryz.underlying48 ⟨⟨rfl, AE.size_of Tryz.type9 rfl, Tryz.isAgg9, fun _ => rfl⟩, ⟨rfl, AE.size_of Tryz.type46 rfl, Tryz.isAgg46, fun h => by cases h⟩, trivial⟩ (by kernel_rfl) (by kernel_rfl) ⟨⟨rfl, by decide⟩, ⟨rfl, by decide⟩, trivial⟩) Tryz.type48 rfl rfl rfl rfl rfl rfl (fun h => by cases h)
theorem ty49 : AE.TypeOK Tryz.prog 49 ⟨.other, 1, 8, [Value.nilFunc]⟩ := AE.TypeOK.of (Tryz.isAgg49) Tryz.type49 rfl rfl rfl rfl rfl rfl (fun h => rfl)
theorem ty50 : AE.TypeOK Tryz.prog 50 ⟨.other, 1, 8, [Value.nilFunc]⟩ := AE.TypeOK.of (Tryz.isAgg50) Tryz.type50 rfl rfl rfl rfl rfl rfl (fun h => rfl)
theorem ty51 : AE.TypeOK Tryz.prog 51 ⟨.other, 1, 8, [Value.nilFunc]⟩ := AE.TypeOK.of (Tryz.isAgg51) Tryz.type51 rfl rfl rfl rfl rfl rfl (fun h => rfl)
theorem ty52 : AE.TypeOK Tryz.prog 52 ⟨.other, 1, 8, [Value.nilFunc]⟩ := AE.TypeOK.of (Tryz.isAgg52) Tryz.type52 rfl rfl rfl rfl rfl rfl (fun h => rfl)
theorem ty53 : AE.TypeOK Tryz.prog 53 ⟨.other, 1, 8, [Value.nilFunc]⟩ := AE.TypeOK.of (Tryz.isAgg53) Tryz.type53 rfl rfl rfl rfl rfl rfl (fun h => rfl)
theorem ty54 : AE.TypeOK Tryz.prog 54 ⟨.other, 1, 8, [Value.nilFunc]⟩ := AE.TypeOK.of (Tryz.isAgg54) Tryz.type54 rfl rfl rfl rfl rfl rfl (fun h => rfl)
theorem ty55 : AE.TypeOK Tryz.prog 55 ⟨.other, 1, 8, [Value.nilFunc]⟩ := AE.TypeOK.of (Tryz.isAgg55) Tryz.type55 rfl rfl rfl rfl rfl rfl (fun h => rfl)
theorem ty57 : AE.TypeOK Tryz.prog 57 ⟨.other, 1, 8, [Value.nilFunc]⟩ := AE.TypeOK.of (Tryz.isAgg57) Tryz.type57 rfl rfl rfl rfl rfl rfl (fun h => rfl)
theorem ty59 : AE.TypeOK Tryz.prog 59 ⟨.other, 1, 8, [Value.nilFunc]⟩ := AE.TypeOK.of (Tryz.isAgg59) Tryz.type59 rfl rfl rfl rfl rfl rfl (fun h => rfl)
theorem ty61 : AE.TypeOK Tryz.prog 61 ⟨.other, 1, 8, [Value.nilFunc]⟩ := AE.TypeOK.of (Tryz.isAgg61) Tryz.type61 rfl rfl rfl rfl rfl rfl (fun h => rfl)
theorem ty62 : AE.TypeOK Tryz.prog 62 ⟨.other, 1, 8, [Value.nilFunc]⟩ := AE.TypeOK.of (Tryz.isAgg62) Tryz.type62 rfl rfl rfl rfl rfl rfl (fun h => rfl)
theorem ty63 : AE.TypeOK Tryz.prog 63 ⟨.struct [(0, 1, false), (1, 3, true)] (some [4, 29]), 4, 48, [Value.bool false, Value.bool false, Value.string { data := #[] }, Value.string { data := #[] }]⟩ := AE.TypeOK.of (AE.KindOK.structEq Tryz.underlying63 ⟨⟨rfl, AE.size_of Tryz.type4 rfl, Tryz.isAgg4, fun _ => rfl⟩, ⟨rfl, AE.size_of Tryz.type29 rfl, Tryz.isAgg29, fun h => by cases h⟩, trivial⟩ (by kernel_rfl) (by kernel_rfl) ⟨⟨rfl, by decide⟩, ⟨rfl, by decide⟩, trivial⟩) Tryz.type63 rfl rfl rfl rfl rfl rfl (fun h => by cases h)
theorem ty64 : AE.TypeOK Tryz.prog 64 ⟨.struct [(0, 1, false), (1, 3, true)] (some [4, 29]), 4, 48, [Value.bool false, Value.bool false, Value.string { data := #[] }, Value.string { data := #[] }]⟩ := AE.TypeOK.of (AE.KindOK.structEq Tryz.underlying64 ⟨⟨rfl, AE.size_of Tryz.type4 rfl, Tryz.isAgg4, fun _ => rfl⟩, ⟨rfl, AE.size_of Tryz.type29 rfl, Tryz.isAgg29, fun h => by cases h⟩, trivial⟩ (by kernel_rfl) (by kernel_rfl) ⟨⟨rfl, by decide⟩, ⟨rfl, by decide⟩, trivial⟩) Tryz.type64 rfl rfl rfl rfl rfl rfl (fun h => by cases h)
theorem ty65 : AE.TypeOK Tryz.prog 65 ⟨.struct [(0, 6, true), (6, 4, true)] (some [44, 64]), 10, 128, [Value.bool false, Value.string { data := #[] }, Value.string { data := #[] }, Value.bool false,
  Value.string { data := #[] }, Value.string { data := #[] }, Value.bool false, Value.bool false,
  Value.string { data := #[] }, Value.string { data := #[] }]⟩ := AE.TypeOK.of (AE.KindOK.structEq Tryz.underlying65 ⟨⟨rfl, AE.size_of Tryz.type44 rfl, Tryz.isAgg44, fun h => by cases h⟩, ⟨rfl, AE.size_of Tryz.type64 rfl, Tryz.isAgg64, fun h => by cases h⟩, trivial⟩ (by kernel_rfl) (by kernel_rfl) ⟨⟨rfl, by decide⟩, ⟨rfl, by decide⟩, trivial⟩) Tryz.type65 rfl rfl rfl rfl rfl rfl (fun h => by cases h)
theorem ty66 : AE.TypeOK Tryz.prog 66 ⟨.struct [(0, 6, true), (6, 4, true)] (some [44, 64]), 10, 128, [Value.bool false, Value.string { data := #[] }, Value.string { data := #[] }, Value.bool false,
  Value.string { data := #[] }, Value.string { data := #[] }, Value.bool false, Value.bool false,
  Value.string { data := #[] }, Value.string { data := #[] }]⟩ := AE.TypeOK.of (AE.KindOK.structEq Tryz.underlying66 ⟨⟨rfl, AE.size_of Tryz.type44 rfl, Tryz.isAgg44, fun h => by cases h⟩, ⟨rfl, AE.size_of Tryz.type64 rfl, Tryz.isAgg64, fun h => by cases h⟩, trivial⟩ (by kernel_rfl) (by kernel_rfl) ⟨⟨rfl, by decide⟩, ⟨rfl, by decide⟩, trivial⟩) Tryz.type66 rfl rfl rfl rfl rfl rfl (fun h => by cases h)
theorem ty67 : AE.TypeOK Tryz.prog 67 ⟨.struct [(0, 1, false), (1, 10, true), (11, 3, true)] (some [9, 66, 29]), 14, 184, [Value.string { data := #[] }, Value.bool false, Value.string { data := #[] }, Value.string { data := #[] },
  Value.bool false, Value.string { data := #[] }, Value.string { data := #[] }, Value.bool false,
  Value.bool false, Value.string { data := #[] }, Value.string { data := #[] }, Value.bool false,
  Value.string { data := #[] }, Value.string { data := #[] }]⟩ := AE.TypeOK.of (AE.KindOK.structEq Tryz.underlying67 ⟨⟨rfl, AE.size_of Tryz.type9 rfl, Tryz.isAgg9, fun _ => rfl⟩, ⟨rfl, AE.size_of Tryz.type66 rfl, Tryz.isAgg66, fun h => by cases h⟩, ⟨rfl, AE.size_of Tryz.type29 rfl, Tryz.isAgg29, fun h => by cases h⟩, trivial⟩ (by kernel_rfl) (by kernel_rfl) ⟨⟨rfl, by decide⟩, ⟨rfl, by decide⟩, ⟨rfl, by decide⟩, trivial⟩) Tryz.type67 rfl rfl rfl rfl rfl rfl (fun h => by cases h)
theorem ty68 : AE.TypeOK Tryz.prog 68 ⟨.struct [(0, 1, false), (1, 10, true), (11, 3, true)] (some [9, 66, 29]), 14, 184, [Value.string { data := #[] }, Value.bool false, Value.string { data := #[] }, Value.string { data := #[] },
  Value.bool false, Value.string { data := #[] }, Value.string { data := #[] }, Value.bool false,
  Value.bool false, Value.string { data := #[] }, Value.string { data := #[] }, Value.bool false,
  Value.string { data := #[] }, Value.string { data := #[] }]⟩ := AE.TypeOK.of (AE.KindOK.structEq Tryz.underlying68 ⟨⟨rfl, AE.size_of Tryz.type9 rfl, Tryz.isAgg9, fun _ => rfl⟩, ⟨rfl, AE.size_of Tryz.type66 rfl, Tryz.isAgg66, fun h => by cases h⟩, ⟨rfl, AE.size_of Tryz.type29 rfl, Tryz.isAgg29, fun h => by cases h⟩, trivial⟩ (by kernel_rfl) (by kernel_rfl) ⟨⟨rfl, by decide⟩, ⟨rfl, by decide⟩, ⟨rfl, by decide⟩, trivial⟩) Tryz.type68 rfl rfl rfl rfl rfl rfl (fun h => by cases h)
theorem ty69 : AE.TypeOK Tryz.prog 69 ⟨.other, 1, 8, [Value.nilFunc]⟩ := AE.TypeOK.of (Tryz.isAgg69) Tryz.type69 rfl rfl rfl rfl rfl rfl (fun h => rfl)
theorem ty70 : AE.TypeOK Tryz.prog 70 ⟨.other, 1, 8, [Value.nilFunc]⟩ := AE.TypeOK.of (Tryz.isAgg70) Tryz.type70 rfl rfl rfl rfl rfl rfl (fun h => rfl)
theorem ty71 : AE.TypeOK Tryz.prog 71 ⟨.other, 1, 8, [Value.nilFunc]⟩ := AE.TypeOK.of (Tryz.isAgg71) Tryz.type71 rfl rfl rfl rfl rfl rfl (fun h => rfl)
theorem ty72 : AE.TypeOK Tryz.prog 72 ⟨.int IntKind.u64, 1, 8, [Value.int IntKind.u64 0]⟩ := AE.TypeOK.of (Tryz.underlying72) Tryz.type72 rfl rfl rfl rfl rfl rfl (fun h => rfl)
theorem ty73 : AE.TypeOK Tryz.prog 73 ⟨.other, 1, 8, [Value.nilFunc]⟩ := AE.TypeOK.of (Tryz.isAgg73) Tryz.type73 rfl rfl rfl rfl rfl rfl (fun h => rfl)
theorem ty74 : AE.TypeOK Tryz.prog 74 ⟨.slice 29, 1, 24, [Value.slice none 0 0]⟩ := AE.TypeOK.of (Tryz.underlying74) Tryz.type74 rfl rfl rfl rfl rfl rfl (fun h => rfl)
theorem ty75 : AE.TypeOK Tryz.prog 75 ⟨.struct [(0, 1, false), (1, 1, false), (2, 1, false), (3, 1, false)] none, 4, 64, [Value.slice none 0 0, Value.slice none 0 0, Value.bool false, Value.int IntKind.i64 0]⟩ := AE.TypeOK.of (AE.KindOK.struct Tryz.underlying75 ⟨⟨rfl, AE.size_of Tryz.type74 rfl, Tryz.isAgg74, fun _ => rfl⟩, ⟨rfl, AE.size_of Tryz.type74 rfl, Tryz.isAgg74, fun _ => rfl⟩, ⟨rfl, AE.size_of Tryz.type4 rfl, Tryz.isAgg4, fun _ => rfl⟩, ⟨rfl, AE.size_of Tryz.type3 rfl, Tryz.isAgg3, fun _ => rfl⟩, trivial⟩) Tryz.type75 rfl rfl rfl rfl rfl rfl (fun h => by cases h)
theorem ty76 : AE.TypeOK Tryz.prog 76 ⟨.struct [(0, 1, false), (1, 1, false), (2, 1, false), (3, 1, false)] none, 4, 64, [Value.slice none 0 0, Value.slice none 0 0, Value.bool false, Value.int IntKind.i64 0]⟩ := AE.TypeOK.of (AE.KindOK.struct Tryz.underlying76 ⟨⟨rfl, AE.size_of Tryz.type74 rfl, Tryz.isAgg74, fun _ => rfl⟩, ⟨rfl, AE.size_of Tryz.type74 rfl, Tryz.isAgg74, fun _ => rfl⟩, ⟨rfl, AE.size_of Tryz.type4 rfl, Tryz.isAgg4, fun _ => rfl⟩, ⟨rfl, AE.size_of Tryz.type3 rfl, Tryz.isAgg3, fun _ => rfl⟩, trivial⟩) Tryz.type76 rfl rfl rfl rfl rfl rfl (fun h => by cases h)
theorem ty77 : AE.TypeOK Tryz.prog 77 ⟨.slice 82, 1, 24, [Value.slice none 0 0]⟩ := AE.TypeOK.of (Tryz.underlying77) Tryz.type77 rfl rfl rfl rfl rfl rfl (fun h => rfl)
theorem ty78 : AE.TypeOK Tryz.prog 78 ⟨.struct [(0, 1, false), (1, 10, true), (11, 1, false)] none, 12, 168, [Value.string { data := #[] }, Value.bool false, Value.string { data := #[] }, Value.string { data := #[] },
  Value.bool false, Value.string { data := #[] }, Value.string { data := #[] }, Value.bool false,
  Value.bool false, Value.string { data := #[] }, Value.string { data := #[] }, Value.slice none 0 0]⟩ := AE.TypeOK.of (AE.KindOK.struct Tryz.underlying78 ⟨⟨rfl, AE.size_of Tryz.type9 rfl, Tryz.isAgg9, fun _ => rfl⟩, ⟨rfl, AE.size_of Tryz.type66 rfl, Tryz.isAgg66, fun h => by cases h⟩, ⟨rfl, AE.size_of Tryz.type77 rfl, Tryz.isAgg77, fun _ => rfl⟩, trivial⟩) Tryz.type78 rfl rfl rfl rfl rfl rfl (fun h => by cases h)
theorem ty79 : AE.TypeOK Tryz.prog 79 ⟨.struct [(0, 1, false), (1, 10, true), (11, 1, false)] none, 12, 168, [Value.string { data := #[] }, Value.bool false, Value.string { data := #[] }, Value.string { data := #[] },
  Value.bool false, Value.string { data := #[] }, Value.string { data := #[] }, Value.bool false,
  Value.bool false, Value.string { data := #[] }, Value.string { data := #[] }, Value.slice none 0 0]⟩ := AE.TypeOK.of (AE.KindOK.struct Tryz.underlying79 ⟨⟨rfl, AE.size_of Tryz.type9 rfl, Tryz.isAgg9, fun _ => rfl⟩, ⟨rfl, AE.size_of Tryz.type66 rfl, Tryz.isAgg66, fun h => by cases h⟩, ⟨rfl, AE.size_of Tryz.type77 rfl, Tryz.isAgg77, fun _ => rfl⟩, trivial⟩) Tryz.type79 rfl rfl rfl rfl rfl rfl (fun h => by cases h)
theorem ty80 : AE.TypeOK Tryz.prog 80 ⟨.other, 1, 8, [Value.nilFunc]⟩ := AE.TypeOK.of (Tryz.isAgg80) Tryz.type80 rfl rfl rfl rfl rfl rfl (fun h => rfl)
theorem ty81 : AE.TypeOK Tryz.prog 81 ⟨.struct [(0, 3, true), (3, 3, true), (6, 3, true), (9, 3, true), (12, 3, true), (15, 1, false)] none, 16, 224, [Value.bool false, Value.string { data := #[] }, Value.string { data := #[] }, Value.bool false,
  Value.string { data := #[] }, Value.string { data := #[] }, Value.bool false,
  Value.string { data := #[] }, Value.string { data := #[] }, Value.bool false,
  Value.string { data := #[] }, Value.string { data := #[] }, Value.bool false,
  Value.string { data := #[] }, Value.string { data := #[] }, Value.slice none 0 0]⟩ := AE.TypeOK.of (AE.KindOK.struct Tryz.underlying81 ⟨⟨rfl, AE.size_of Tryz.type29 rfl, Tryz.isAgg29, fun h => by cases h⟩, ⟨rfl, AE.size_of Tryz.type29 rfl, Tryz.isAgg29, fun h => by cases h⟩, ⟨rfl, AE.size_of Tryz.type29 rfl, Tryz.isAgg29, fun h => by cases h⟩, ⟨rfl, AE.size_of Tryz.type29 rfl, Tryz.isAgg29, fun h => by cases h⟩, ⟨rfl, AE.size_of Tryz.type29 rfl, Tryz.isAgg29, fun h => by cases h⟩, ⟨rfl, AE.size_of Tryz.type34 rfl, Tryz.isAgg34, fun _ => rfl⟩, trivial⟩) Tryz.type81 rfl rfl rfl rfl rfl rfl (fun h => by cases h)
theorem ty82 : AE.TypeOK Tryz.prog 82 ⟨.struct [(0, 3, true), (3, 3, true), (6, 3, true), (9, 3, true), (12, 3, true), (15, 1, false)] none, 16, 224, [Value.bool false, Value.string { data := #[] }, Value.string { data := #[] }, Value.bool false,
  Value.string { data := #[] }, Value.string { data := #[] }, Value.bool false,
  Value.string { data := #[] }, Value.string { data := #[] }, Value.bool false,
  Value.string { data := #[] }, Value.string { data := #[] }, Value.bool false,
  Value.string { data := #[] }, Value.string { data := #[] }, Value.slice none 0 0]⟩ := AE.TypeOK.of (AE.KindOK.struct Tryz.underlying82 ⟨⟨rfl, AE.size_of Tryz.type29 rfl, Tryz.isAgg29, fun h => by cases h⟩, ⟨rfl, AE.size_of Tryz.type29 rfl, Tryz.isAgg29, fun h => by cases h⟩, ⟨rfl, AE.size_of Tryz.type29 rfl, Tryz.isAgg29, fun h => by cases h⟩, ⟨rfl, AE.size_of Tryz.type29 rfl, Tryz.isAgg29, fun h => by cases h⟩, ⟨rfl, AE.size_of Tryz.type29 rfl, Tryz.isAgg29, fun h => by cases h⟩, ⟨rfl, AE.size_of Tryz.type34 rfl, Tryz.isAgg34, fun _ => rfl⟩, trivial⟩) Tryz.type82 rfl rfl rfl rfl rfl rfl (fun h => by cases h)
theorem ty83 : AE.TypeOK Tryz.prog 83 ⟨.slice 5, 1, 24, [Value.slice none 0 0]⟩ := AE.TypeOK.of (Tryz.underlying83) Tryz.type83 rfl rfl rfl rfl rfl rfl (fun h => rfl)
theorem ty84 : AE.TypeOK Tryz.prog 84 ⟨.other, 1, 8, [Value.nilFunc]⟩ := AE.TypeOK.of (Tryz.isAgg84) Tryz.type84 rfl rfl rfl rfl rfl rfl (fun h => rfl)
theorem ty85 : AE.TypeOK Tryz.prog 85 ⟨.other, 1, 8, [Value.nilFunc]⟩ := AE.TypeOK.of (Tryz.isAgg85) Tryz.type85 rfl rfl rfl rfl rfl rfl (fun h => rfl)
theorem ty86 : AE.TypeOK Tryz.prog 86 ⟨.other, 1, 8, [Value.nilFunc]⟩ := AE.TypeOK.of (Tryz.isAgg86) Tryz.type86 rfl rfl rfl rfl rfl rfl (fun h => rfl)
theorem ty87 : AE.TypeOK Tryz.prog 87 ⟨.slice 74, 1, 24, [Value.slice none 0 0]⟩ := AE.TypeOK.of (Tryz.underlying87) Tryz.type87 rfl rfl rfl rfl rfl rfl (fun h => rfl)
theorem ty88 : AE.TypeOK Tryz.prog 88 ⟨.other, 1, 8, [Value.nilFunc]⟩ := AE.TypeOK.of (Tryz.isAgg88) Tryz.type88 rfl rfl rfl rfl rfl rfl (fun h => rfl)
theorem ty89 : AE.TypeOK Tryz.prog 89 ⟨.other, 1, 8, [Value.nilFunc]⟩ := AE.TypeOK.of (Tryz.isAgg89) Tryz.type89 rfl rfl rfl rfl rfl rfl (fun h => rfl)
theorem ty90 : AE.TypeOK Tryz.prog 90 ⟨.other, 1, 8, [Value.nilFunc]⟩ := AE.TypeOK.of (Tryz.isAgg90) Tryz.type90 rfl rfl rfl rfl rfl rfl (fun h => rfl)
theorem ty91 : AE.TypeOK Tryz.prog 91 ⟨.other, 1, 8, [Value.nilFunc]⟩ := AE.TypeOK.of (Tryz.isAgg91) Tryz.type91 rfl rfl rfl rfl rfl rfl (fun h => rfl)
theorem ty92 : AE.TypeOK Tryz.prog 92 ⟨.other, 1, 8, [Value.nilFunc]⟩ := AE.TypeOK.of (Tryz.isAgg92) Tryz.type92 rfl rfl rfl rfl rfl rfl (fun h => rfl)
theorem ty93 : AE.TypeOK Tryz.prog 93 ⟨.other, 1, 8, [Value.nilFunc]⟩ := AE.TypeOK.of (Tryz.isAgg93) Tryz.type93 rfl rfl rfl rfl rfl rfl (fun h => rfl)
theorem ty95 : AE.TypeOK Tryz.prog 95 ⟨.other, 1, 8, [Value.nilFunc]⟩ := AE.TypeOK.of (Tryz.isAgg95) Tryz.type95 rfl rfl rfl rfl rfl rfl (fun h => rfl)
theorem ty96 : AE.TypeOK Tryz.prog 96 ⟨.other, 1, 8, [Value.nilFunc]⟩ := AE.TypeOK.of (Tryz.isAgg96) Tryz.type96 rfl rfl rfl rfl rfl rfl (fun h => rfl)
theorem ty97 : AE.TypeOK Tryz.prog 97 ⟨.other, 1, 8, [Value.nilFunc]⟩ := AE.TypeOK.of (Tryz.isAgg97) Tryz.type97 rfl rfl rfl rfl rfl rfl (fun h => rfl)
theorem ty98 : AE.TypeOK Tryz.prog 98 ⟨.struct [(0, 1, false), (1, 1, false), (2, 10, true)] none, 12, 168, [Value.string { data := #[] }, Value.slice none 0 0, Value.bool false, Value.string { data := #[] },
  Value.string { data := #[] }, Value.bool false, Value.string { data := #[] },
  Value.string { data := #[] }, Value.bool false, Value.bool false, Value.string { data := #[] },
  Value.string { data := #[] }]⟩ := AE.TypeOK.of (AE.KindOK.struct Tryz.underlying98 ⟨⟨rfl, AE.size_of Tryz.type9 rfl, Tryz.isAgg9, fun _ => rfl⟩, ⟨rfl, AE.size_of Tryz.type34 rfl, Tryz.isAgg34, fun _ => rfl⟩, ⟨rfl, AE.size_of Tryz.type66 rfl, Tryz.isAgg66, fun h => by cases h⟩, trivial⟩) Tryz.type98 rfl rfl rfl rfl rfl rfl (fun h => by cases h)
theorem ty99 : AE.TypeOK Tryz.prog 99 ⟨.struct [(0, 1, false), (1, 1, false), (2, 10, true)] none, 12, 168, [Value.string { data := #[] }, Value.slice none 0 0, Value.bool false, Value.string { data := #[] },
  Value.string { data := #[] }, Value.bool false, Value.string { data := #[] },
  Value.string { data := #[] }, Value.bool false, Value.bool false, Value.string { data := #[] },
  Value.string { data := #[] }]⟩ := AE.TypeOK.of (AE.KindOK.struct Tryz.underlying99 ⟨⟨rfl, AE.size_of Tryz.type9 rfl, Tryz.isAgg9, fun _ => rfl⟩, ⟨rfl, AE.size_of Tryz.type34 rfl, Tryz.isAgg34, fun _ => rfl⟩, ⟨rfl, AE.size_of Tryz.type66 rfl, Tryz.isAgg66, fun h => by cases h⟩, trivial⟩) Tryz.type99 rfl rfl rfl rfl rfl rfl (fun h => by cases h)
theorem ty100 : AE.TypeOK Tryz.prog 100 ⟨.other, 1, 8, [Value.nilFunc]⟩ := AE.TypeOK.of (Tryz.isAgg100) Tryz.type100 rfl rfl rfl rfl rfl rfl (fun h => rfl)
theorem ty101 : AE.TypeOK Tryz.prog 101 ⟨.other, 1, 8, [Value.nilFunc]⟩ := AE.TypeOK.of (Tryz.isAgg101) Tryz.type101 rfl rfl rfl rfl rfl rfl (fun h => rfl)
theorem ty102 : AE.TypeOK Tryz.prog 102 ⟨.other, 1, 8, [Value.nilFunc]⟩ := AE.TypeOK.of (Tryz.isAgg102) Tryz.type102 rfl rfl rfl rfl rfl rfl (fun h => rfl)
theorem ty103 : AE.TypeOK Tryz.prog 103 ⟨.other, 1, 8, [Value.nilFunc]⟩ := AE.TypeOK.of (Tryz.isAgg103) Tryz.type103 rfl rfl rfl rfl rfl rfl (fun h => rfl)
theorem ty104 : AE.TypeOK Tryz.prog 104 ⟨.other, 1, 8, [Value.nilFunc]⟩ := AE.TypeOK.of (Tryz.isAgg104) Tryz.type104 rfl rfl rfl rfl rfl rfl (fun h => rfl)
theorem ty105 : AE.TypeOK Tryz.prog 105 ⟨.other, 1, 8, [Value.nilFunc]⟩ := AE.TypeOK.of (Tryz.isAgg105) Tryz.type105 rfl rfl rfl rfl rfl rfl (fun h => rfl)
theorem ty106 : AE.TypeOK Tryz.prog 106 ⟨.other, 1, 8, [Value.nilFunc]⟩ := AE.TypeOK.of (Tryz.isAgg106) Tryz.type106 rfl rfl rfl rfl rfl rfl (fun h => rfl)
theorem ty107 : AE.TypeOK Tryz.prog 107 ⟨.other, 1, 8, [Value.nilFunc]⟩ := AE.TypeOK.of (Tryz.isAgg107) Tryz.type107 rfl rfl rfl rfl rfl rfl (fun h => rfl)
theorem ty108 : AE.TypeOK Tryz.prog 108 ⟨.other, 1, 8, [Value.nilFunc]⟩ := AE.TypeOK.of (Tryz.isAgg108) Tryz.type108 rfl rfl rfl rfl rfl rfl (fun h => rfl)
theorem ty109 : AE.TypeOK Tryz.prog 109 ⟨.other, 1, 8, [Value.nilFunc]⟩ := AE.TypeOK.of (Tryz.isAgg109) Tryz.type109 rfl rfl rfl rfl rfl rfl (fun h => rfl)
theorem ty110 : AE.TypeOK Tryz.prog 110 ⟨.other, 1, 8, [Value.nilFunc]⟩ := AE.TypeOK.of (Tryz.isAgg110) Tryz.type110 rfl rfl rfl rfl rfl rfl (fun h => rfl)
theorem ty111 : AE.TypeOK Tryz.prog 111 ⟨.other, 1, 8, [Value.nilFunc]⟩ := AE.TypeOK.of (Tryz.isAgg111) Tryz.type111 rfl rfl rfl rfl rfl rfl (fun h => rfl)
theorem ty112 : AE.TypeOK Tryz.prog 112 ⟨.slice 118, 1, 24, [Value.slice none 0 0]⟩ := AE.TypeOK.of (Tryz.underlying112) Tryz.type112 rfl rfl rfl rfl rfl rfl (fun h => rfl)
theorem ty113 : AE.TypeOK Tryz.prog 113 ⟨.other, 1, 8, [Value.nilFunc]⟩ := AE.TypeOK.of (Tryz.isAgg113) Tryz.type113 rfl rfl rfl rfl rfl rfl (fun h => rfl)
theorem ty114 : AE.TypeOK Tryz.prog 114 ⟨.other, 1, 8, [Value.nilFunc]⟩ := AE.TypeOK.of (Tryz.isAgg114) Tryz.type114 rfl rfl rfl rfl rfl rfl (fun h => rfl)
theorem ty115 : AE.TypeOK Tryz.prog 115 ⟨.other, 1, 8, [Value.nilFunc]⟩ := AE.TypeOK.of (Tryz.isAgg115) Tryz.type115 rfl rfl rfl rfl rfl rfl (fun h => rfl)
theorem ty116 : AE.TypeOK Tryz.prog 116 ⟨.other, 1, 8, [Value.nilFunc]⟩ := AE.TypeOK.of (Tryz.isAgg116) Tryz.type116 rfl rfl rfl rfl rfl rfl (fun h => rfl)
theorem ty117 : AE.TypeOK Tryz.prog 117 ⟨.struct [(0, 1, false), (1, 1, false)] (some [3, 3]), 2, 16, [Value.int IntKind.i64 0, Value.int IntKind.i64 0]⟩ := AE.TypeOK.of (AE.KindOK.structEq Tryz.underlying117 ⟨⟨rfl, AE.size_of Tryz.type3 rfl, Tryz.isAgg3, fun _ => rfl⟩, ⟨rfl, AE.size_of Tryz.type3 rfl, Tryz.isAgg3, fun _ => rfl⟩, trivial⟩ (by kernel_rfl) (by kernel_rfl) ⟨⟨rfl, by decide⟩, ⟨rfl, by decide⟩, trivial⟩) Tryz.type117 rfl rfl rfl rfl rfl rfl (fun h => by cases h)
theorem ty118 : AE.TypeOK Tryz.prog 118 ⟨.struct [(0, 1, false), (1, 1, false)] (some [3, 3]), 2, 16, [Value.int IntKind.i64 0, Value.int IntKind.i64 0]⟩ := AE.TypeOK.of (AE.KindOK.structEq Tryz.underlying118 ⟨⟨rfl, AE.size_of Tryz.type3 rfl, Tryz.isAgg3, fun _ => rfl⟩, ⟨rfl, AE.size_of Tryz.type3 rfl, Tryz.isAgg3, fun _ => rfl⟩, trivial⟩ (by kernel_rfl) (by kernel_rfl) ⟨⟨rfl, by decide⟩, ⟨rfl, by decide⟩, trivial⟩) Tryz.type118 rfl rfl rfl rfl rfl rfl (fun h => by cases h)
theorem ty119 : AE.TypeOK Tryz.prog 119 ⟨.other, 1, 8, [Value.nilFunc]⟩ := AE.TypeOK.of (Tryz.isAgg119) Tryz.type119 rfl rfl rfl rfl rfl rfl (fun h => rfl)
theorem ty120 : AE.TypeOK Tryz.prog 120 ⟨.other, 1, 8, [Value.nilFunc]⟩ := AE.TypeOK.of (Tryz.isAgg120) Tryz.type120 rfl rfl rfl rfl rfl rfl (fun h => rfl)
theorem ty121 : AE.TypeOK Tryz.prog 121 ⟨.other, 1, 8, [Value.nilFunc]⟩ := AE.TypeOK.of (Tryz.isAgg121) Tryz.type121 rfl rfl rfl rfl rfl rfl (fun h => rfl)
theorem ty122 : AE.TypeOK Tryz.prog 122 ⟨.other, 1, 8, [Value.nilFunc]⟩ := AE.TypeOK.of (Tryz.isAgg122) Tryz.type122 rfl rfl rfl rfl rfl rfl (fun h => rfl)
theorem ty123 : AE.TypeOK Tryz.prog 123 ⟨.other, 1, 8, [Value.nilFunc]⟩ := AE.TypeOK.of (Tryz.isAgg123) Tryz.type123 rfl rfl rfl rfl rfl rfl (fun h => rfl)
theorem ty124 : AE.TypeOK Tryz.prog 124 ⟨.other, 1, 8, [Value.nilFunc]⟩ := AE.TypeOK.of (Tryz.isAgg124) Tryz.type124 rfl rfl rfl rfl rfl rfl (fun h => rfl)
theorem ty125 : AE.TypeOK Tryz.prog 125 ⟨.other, 1, 8, [Value.nilFunc]⟩ := AE.TypeOK.of (Tryz.isAgg125) Tryz.type125 rfl rfl rfl rfl rfl rfl (fun h => rfl)
theorem ty126 : AE.TypeOK Tryz.prog 126 ⟨.other, 1, 8, [Value.nilFunc]⟩ := AE.TypeOK.of (Tryz.isAgg126) Tryz.type126 rfl rfl rfl rfl rfl rfl (fun h => rfl)
theorem ty127 : AE.TypeOK Tryz.prog 127 ⟨.other, 1, 8, [Value.nilFunc]⟩ := AE.TypeOK.of (Tryz.isAgg127) Tryz.type127 rfl rfl rfl rfl rfl rfl (fun h => rfl)
theorem ty129 : AE.TypeOK Tryz.prog 129 ⟨.other, 1, 8, [Value.nilFunc]⟩ := AE.TypeOK.of (Tryz.isAgg129) Tryz.type129 rfl rfl rfl rfl rfl rfl (fun h => rfl)
theorem ty130 : AE.TypeOK Tryz.prog 130 ⟨.other, 1, 8, [Value.nilFunc]⟩ := AE.TypeOK.of (Tryz.isAgg130) Tryz.type130 rfl rfl rfl rfl rfl rfl (fun h => rfl)
theorem ty131 : AE.TypeOK Tryz.prog 131 ⟨.other, 1, 8, [Value.nilFunc]⟩ := AE.TypeOK.of (Tryz.isAgg131) Tryz.type131 rfl rfl rfl rfl rfl rfl (fun h => rfl)
theorem ty132 : AE.TypeOK Tryz.prog 132 ⟨.other, 1, 8, [Value.nilFunc]⟩ := AE.TypeOK.of (Tryz.isAgg132) Tryz.type132 rfl rfl rfl rfl rfl rfl (fun h => rfl)
theorem ty133 : AE.TypeOK Tryz.prog 133 ⟨.other, 1, 8, [Value.nilFunc]⟩ := AE.TypeOK.of (Tryz.isAgg133) Tryz.type133 rfl rfl rfl rfl rfl rfl (fun h => rfl)
theorem ty134 : AE.TypeOK Tryz.prog 134 ⟨.other, 1, 8, [Value.nilFunc]⟩ := AE.TypeOK.of (Tryz.isAgg134) Tryz.type134 rfl rfl rfl rfl rfl rfl (fun h => rfl)
theorem ty135 : AE.TypeOK Tryz.prog 135 ⟨.other, 1, 8, [Value.nilFunc]⟩ := AE.TypeOK.of (Tryz.isAgg135) Tryz.type135 rfl rfl rfl rfl rfl rfl (fun h => rfl)
theorem ty136 : AE.TypeOK Tryz.prog 136 ⟨.other, 1, 8, [Value.nilFunc]⟩ := AE.TypeOK.of (Tryz.isAgg136) Tryz.type136 rfl rfl rfl rfl rfl rfl (fun h => rfl)
theorem ty137 : AE.TypeOK Tryz.prog 137 ⟨.other, 1, 8, [Value.nilFunc]⟩ := AE.TypeOK.of (Tryz.isAgg137) Tryz.type137 rfl rfl rfl rfl rfl rfl (fun h => rfl)
theorem ty138 : AE.TypeOK Tryz.prog 138 ⟨.other, 1, 8, [Value.nilFunc]⟩ := AE.TypeOK.of (Tryz.isAgg138) Tryz.type138 rfl rfl rfl rfl rfl rfl (fun h => rfl)
theorem ty139 : AE.TypeOK Tryz.prog 139 ⟨.other, 1, 8, [Value.nilFunc]⟩ := AE.TypeOK.of (Tryz.isAgg139) Tryz.type139 rfl rfl rfl rfl rfl rfl (fun h => rfl)
theorem ty140 : AE.TypeOK Tryz.prog 140 ⟨.other, 1, 8, [Value.nilFunc]⟩ := AE.TypeOK.of (Tryz.isAgg140) Tryz.type140 rfl rfl rfl rfl rfl rfl (fun h => rfl)
theorem ty141 : AE.TypeOK Tryz.prog 141 ⟨.other, 1, 8, [Value.nilFunc]⟩ := AE.TypeOK.of (Tryz.isAgg141) Tryz.type141 rfl rfl rfl rfl rfl rfl (fun h => rfl)
theorem ty142 : AE.TypeOK Tryz.prog 142 ⟨.other, 1, 8, [Value.nilFunc]⟩ := AE.TypeOK.of (Tryz.isAgg142) Tryz.type142 rfl rfl rfl rfl rfl rfl (fun h => rfl)
theorem ty143 : AE.TypeOK Tryz.prog 143 ⟨.ptr 145, 1, 8, [Value.pointer none]⟩ := AE.TypeOK.of (Tryz.underlying143) Tryz.type143 rfl rfl rfl rfl rfl rfl (fun h => rfl)
theorem ty144 : AE.TypeOK Tryz.prog 144 ⟨.struct [(0, 1, false)] none, 1, 24, [Value.slice none 0 0]⟩ := AE.TypeOK.of (AE.KindOK.struct Tryz.underlying144 ⟨⟨rfl, AE.size_of Tryz.type83 rfl, Tryz.isAgg83, fun _ => rfl⟩, trivial⟩) Tryz.type144 rfl rfl rfl rfl rfl rfl (fun h => by cases h)
theorem ty145 : AE.TypeOK Tryz.prog 145 ⟨.struct [(0, 1, false)] none, 1, 24, [Value.slice none 0 0]⟩ := AE.TypeOK.of (AE.KindOK.struct Tryz.underlying145 ⟨⟨rfl, AE.size_of Tryz.type83 rfl, Tryz.isAgg83, fun _ => rfl⟩, trivial⟩) Tryz.type145 rfl rfl rfl rfl rfl rfl (fun h => by cases h)
theorem ty146 : AE.TypeOK Tryz.prog 146 ⟨.other, 1, 8, [Value.nilFunc]⟩ := AE.TypeOK.of (Tryz.isAgg146) Tryz.type146 rfl rfl rfl rfl rfl rfl (fun h => rfl)
theorem ty147 : AE.TypeOK Tryz.prog 147 ⟨.other, 1, 8, [Value.nilFunc]⟩ := AE.TypeOK.of (Tryz.isAgg147) Tryz.type147 rfl rfl rfl rfl rfl rfl (fun h => rfl)
theorem ty148 : AE.TypeOK Tryz.prog 148 ⟨.other, 1, 8, [Value.nilFunc]⟩ := AE.TypeOK.of (Tryz.isAgg148) Tryz.type148 rfl rfl rfl rfl rfl rfl (fun h => rfl)
theorem ty149 : AE.TypeOK Tryz.prog 149 ⟨.other, 1, 8, [Value.nilFunc]⟩ := AE.TypeOK.of (Tryz.isAgg149) Tryz.type149 rfl rfl rfl rfl rfl rfl (fun h => rfl)
theorem ty150 : AE.TypeOK Tryz.prog 150 ⟨.other, 1, 8, [Value.nilFunc]⟩ := AE.TypeOK.of (Tryz.isAgg150) Tryz.type150 rfl rfl rfl rfl rfl rfl (fun h => rfl)
theorem ty152 : AE.TypeOK Tryz.prog 152 ⟨.other, 1, 8, [Value.nilFunc]⟩ := AE.TypeOK.of (Tryz.isAgg152) Tryz.type152 rfl rfl rfl rfl rfl rfl (fun h => rfl)
theorem ty153 : AE.TypeOK Tryz.prog 153 ⟨.other, 1, 8, [Value.nilFunc]⟩ := AE.TypeOK.of (Tryz.isAgg153) Tryz.type153 rfl rfl rfl rfl rfl rfl (fun h => rfl)
theorem ty154 : AE.TypeOK Tryz.prog 154 ⟨.other, 1, 8, [Value.nilFunc]⟩ := AE.TypeOK.of (Tryz.isAgg154) Tryz.type154 rfl rfl rfl rfl rfl rfl (fun h => rfl)
theorem ty155 : AE.TypeOK Tryz.prog 155 ⟨.other, 1, 8, [Value.nilFunc]⟩ := AE.TypeOK.of (Tryz.isAgg155) Tryz.type155 rfl rfl rfl rfl rfl rfl (fun h => rfl)
theorem ty156 : AE.TypeOK Tryz.prog 156 ⟨.map 3 4, 1, 8, [Value.map none]⟩ := AE.TypeOK.of (AE.KindOK.map Tryz.underlying156 Tryz.type4 rfl rfl) Tryz.type156 rfl rfl rfl rfl rfl rfl (fun h => rfl)
theorem ty157 : AE.TypeOK Tryz.prog 157 ⟨.other, 1, 8, [Value.nilFunc]⟩ := AE.TypeOK.of (Tryz.isAgg157) Tryz.type157 rfl rfl rfl rfl rfl rfl (fun h => rfl)
theorem ty158 : AE.TypeOK Tryz.prog 158 ⟨.other, 1, 8, [Value.nilFunc]⟩ := AE.TypeOK.of (Tryz.isAgg158) Tryz.type158 rfl rfl rfl rfl rfl rfl (fun h => rfl)
theorem ty159 : AE.TypeOK Tryz.prog 159 ⟨.other, 1, 8, [Value.nilFunc]⟩ := AE.TypeOK.of (Tryz.isAgg159) Tryz.type159 rfl rfl rfl rfl rfl rfl (fun h => rfl)
theorem ty160 : AE.TypeOK Tryz.prog 160 ⟨.other, 1, 8, [Value.nilFunc]⟩ := AE.TypeOK.of (Tryz.isAgg160) Tryz.type160 rfl rfl rfl rfl rfl rfl (fun h => rfl)
theorem ty161 : AE.TypeOK Tryz.prog 161 ⟨.other, 1, 8, [Value.nilFunc]⟩ := AE.TypeOK.of (Tryz.isAgg161) Tryz.type161 rfl rfl rfl rfl rfl rfl (fun h => rfl)
theorem ty162 : AE.TypeOK Tryz.prog 162 ⟨.other, 1, 8, [Value.nilFunc]⟩ := AE.TypeOK.of (Tryz.isAgg162) Tryz.type162 rfl rfl rfl rfl rfl rfl (fun h => rfl)
theorem ty164 : AE.TypeOK Tryz.prog 164 ⟨.other, 1, 8, [Value.nilFunc]⟩ := AE.TypeOK.of (Tryz.isAgg164) Tryz.type164 rfl rfl rfl rfl rfl rfl (fun h => rfl)
theorem ty165 : AE.TypeOK Tryz.prog 165 ⟨.other, 1, 8, [Value.nilFunc]⟩ := AE.TypeOK.of (Tryz.isAgg165) Tryz.type165 rfl rfl rfl rfl rfl rfl (fun h => rfl)
theorem ty166 : AE.TypeOK Tryz.prog 166 ⟨.other, 1, 8, [Value.nilFunc]⟩ := AE.TypeOK.of (Tryz.isAgg166) Tryz.type166 rfl rfl rfl rfl rfl rfl (fun h => rfl)
theorem ty167 : AE.TypeOK Tryz.prog 167 ⟨.other, 1, 8, [Value.nilFunc]⟩ := AE.TypeOK.of (Tryz.isAgg167) Tryz.type167 rfl rfl rfl rfl rfl rfl (fun h => rfl)
theorem ty168 : AE.TypeOK Tryz.prog 168 ⟨.other, 1, 8, [Value.nilFunc]⟩ := AE.TypeOK.of (Tryz.isAgg168) Tryz.type168 rfl rfl rfl rfl rfl rfl (fun h => rfl)
theorem ty169 : AE.TypeOK Tryz.prog 169 ⟨.other, 1, 8, [Value.nilFunc]⟩ := AE.TypeOK.of (Tryz.isAgg169) Tryz.type169 rfl rfl rfl rfl rfl rfl (fun h => rfl)
theorem ty170 : AE.TypeOK Tryz.prog 170 ⟨.other, 1, 8, [Value.nilFunc]⟩ := AE.TypeOK.of (Tryz.isAgg170) Tryz.type170 rfl rfl rfl rfl rfl rfl (fun h => rfl)
theorem ty172 : AE.TypeOK Tryz.prog 172 ⟨.other, 1, 8, [Value.nilFunc]⟩ := AE.TypeOK.of (Tryz.isAgg172) Tryz.type172 rfl rfl rfl rfl rfl rfl (fun h => rfl)
theorem ty173 : AE.TypeOK Tryz.prog 173 ⟨.other, 1, 8, [Value.nilFunc]⟩ := AE.TypeOK.of (Tryz.isAgg173) Tryz.type173 rfl rfl rfl rfl rfl rfl (fun h => rfl)
theorem ty174 : AE.TypeOK Tryz.prog 174 ⟨.other, 1, 8, [Value.nilFunc]⟩ := AE.TypeOK.of (Tryz.isAgg174) Tryz.type174 rfl rfl rfl rfl rfl rfl (fun h => rfl)
theorem ty175 : AE.TypeOK Tryz.prog 175 ⟨.other, 1, 8, [Value.nilFunc]⟩ := AE.TypeOK.of (Tryz.isAgg175) Tryz.type175 rfl rfl rfl rfl rfl rfl (fun h => rfl)
theorem ty176 : AE.TypeOK Tryz.prog 176 ⟨.slice 9, 1, 24, [Value.slice none 0 0]⟩ := AE.TypeOK.of (Tryz.underlying176) Tryz.type176 rfl rfl rfl rfl rfl rfl (fun h => rfl)
theorem ty177 : AE.TypeOK Tryz.prog 177 ⟨.other, 1, 8, [Value.nilFunc]⟩ := AE.TypeOK.of (Tryz.isAgg177) Tryz.type177 rfl rfl rfl rfl rfl rfl (fun h => rfl)
theorem ty178 : AE.TypeOK Tryz.prog 178 ⟨.other, 1, 8, [Value.nilFunc]⟩ := AE.TypeOK.of (Tryz.isAgg178) Tryz.type178 rfl rfl rfl rfl rfl rfl (fun h => rfl)
theorem ty179 : AE.TypeOK Tryz.prog 179 ⟨.other, 1, 8, [Value.nilFunc]⟩ := AE.TypeOK.of (Tryz.isAgg179) Tryz.type179 rfl rfl rfl rfl rfl rfl (fun h => rfl)
theorem ty180 : AE.TypeOK Tryz.prog 180 ⟨.other, 1, 8, [Value.nilFunc]⟩ := AE.TypeOK.of (Tryz.isAgg180) Tryz.type180 rfl rfl rfl rfl rfl rfl (fun h => rfl)
theorem ty181 : AE.TypeOK Tryz.prog 181 ⟨.other, 1, 8, [Value.nilFunc]⟩ := AE.TypeOK.of (Tryz.isAgg181) Tryz.type181 rfl rfl rfl rfl rfl rfl (fun h => rfl)
theorem ty182 : AE.TypeOK Tryz.prog 182 ⟨.other, 1, 8, [Value.nilFunc]⟩ := AE.TypeOK.of (Tryz.isAgg182) Tryz.type182 rfl rfl rfl rfl rfl rfl (fun h => rfl)
theorem ty183 : AE.TypeOK Tryz.prog 183 ⟨.other, 1, 8, [Value.nilFunc]⟩ := AE.TypeOK.of (Tryz.isAgg183) Tryz.type183 rfl rfl rfl rfl rfl rfl (fun h => rfl)
theorem ty184 : AE.TypeOK Tryz.prog 184 ⟨.other, 1, 8, [Value.nilFunc]⟩ := AE.TypeOK.of (Tryz.isAgg184) Tryz.type184 rfl rfl rfl rfl rfl rfl (fun h => rfl)
theorem ty185 : AE.TypeOK Tryz.prog 185 ⟨.other, 1, 8, [Value.nilFunc]⟩ := AE.TypeOK.of (Tryz.isAgg185) Tryz.type185 rfl rfl rfl rfl rfl rfl (fun h => rfl)
theorem ty186 : AE.TypeOK Tryz.prog 186 ⟨.ptr 188, 1, 8, [Value.pointer none]⟩ := AE.TypeOK.of (Tryz.underlying186) Tryz.type186 rfl rfl rfl rfl rfl rfl (fun h => rfl)
theorem ty187 : AE.TypeOK Tryz.prog 187 ⟨.struct [(0, 1, false)] none, 1, 24, [Value.slice none 0 0]⟩ := AE.TypeOK.of (AE.KindOK.struct Tryz.underlying187 ⟨⟨rfl, AE.size_of Tryz.type22 rfl, Tryz.isAgg22, fun _ => rfl⟩, trivial⟩) Tryz.type187 rfl rfl rfl rfl rfl rfl (fun h => by cases h)
theorem ty188 : AE.TypeOK Tryz.prog 188 ⟨.struct [(0, 1, false)] none, 1, 24, [Value.slice none 0 0]⟩ := AE.TypeOK.of (AE.KindOK.struct Tryz.underlying188 ⟨⟨rfl, AE.size_of Tryz.type22 rfl, Tryz.isAgg22, fun _ => rfl⟩, trivial⟩) Tryz.type188 rfl rfl rfl rfl rfl rfl (fun h => by cases h)
theorem ty189 : AE.TypeOK Tryz.prog 189 ⟨.other, 1, 8, [Value.nilFunc]⟩ := AE.TypeOK.of (Tryz.isAgg189) Tryz.type189 rfl rfl rfl rfl rfl rfl (fun h => rfl)
theorem ty190 : AE.TypeOK Tryz.prog 190 ⟨.other, 1, 8, [Value.nilFunc]⟩ := AE.TypeOK.of (Tryz.isAgg190) Tryz.type190 rfl rfl rfl rfl rfl rfl (fun h => rfl)
theorem ty191 : AE.TypeOK Tryz.prog 191 ⟨.other, 1, 8, [Value.nilFunc]⟩ := AE.TypeOK.of (Tryz.isAgg191) Tryz.type191 rfl rfl rfl rfl rfl rfl (fun h => rfl)
theorem ty192 : AE.TypeOK Tryz.prog 192 ⟨.other, 1, 8, [Value.nilFunc]⟩ := AE.TypeOK.of (Tryz.isAgg192) Tryz.type192 rfl rfl rfl rfl rfl rfl (fun h => rfl)
theorem ty193 : AE.TypeOK Tryz.prog 193 ⟨.other, 1, 8, [Value.nilFunc]⟩ := AE.TypeOK.of (Tryz.isAgg193) Tryz.type193 rfl rfl rfl rfl rfl rfl (fun h => rfl)
theorem ty194 : AE.TypeOK Tryz.prog 194 ⟨.map 9 4, 1, 8, [Value.map none]⟩ := AE.TypeOK.of (AE.KindOK.map Tryz.underlying194 Tryz.type4 rfl rfl) Tryz.type194 rfl rfl rfl rfl rfl rfl (fun h => rfl)
theorem ty195 : AE.TypeOK Tryz.prog 195 ⟨.map 9 4, 1, 8, [Value.map none]⟩ := AE.TypeOK.of (AE.KindOK.map Tryz.underlying195 Tryz.type4 rfl rfl) Tryz.type195 rfl rfl rfl rfl rfl rfl (fun h => rfl)
theorem ty196 : AE.TypeOK Tryz.prog 196 ⟨.other, 1, 8, [Value.nilFunc]⟩ := AE.TypeOK.of (Tryz.isAgg196) Tryz.type196 rfl rfl rfl rfl rfl rfl (fun h => rfl)
theorem ty197 : AE.TypeOK Tryz.prog 197 ⟨.other, 1, 8, [Value.nilFunc]⟩ := AE.TypeOK.of (Tryz.isAgg197) Tryz.type197 rfl rfl rfl rfl rfl rfl (fun h => rfl)
theorem ty198 : AE.TypeOK Tryz.prog 198 ⟨.other, 1, 8, [Value.nilFunc]⟩ := AE.TypeOK.of (Tryz.isAgg198) Tryz.type198 rfl rfl rfl rfl rfl rfl (fun h => rfl)
theorem ty199 : AE.TypeOK Tryz.prog 199 ⟨.other, 1, 8, [Value.nilFunc]⟩ := AE.TypeOK.of (Tryz.isAgg199) Tryz.type199 rfl rfl rfl rfl rfl rfl (fun h => rfl)
theorem ty200 : AE.TypeOK Tryz.prog 200 ⟨.other, 1, 8, [Value.nilFunc]⟩ := AE.TypeOK.of (Tryz.isAgg200) Tryz.type200 rfl rfl rfl rfl rfl rfl (fun h => rfl)
theorem ty201 : AE.TypeOK Tryz.prog 201 ⟨.other, 1, 8, [Value.nilFunc]⟩ := AE.TypeOK.of (Tryz.isAgg201) Tryz.type201 rfl rfl rfl rfl rfl rfl (fun h => rfl)
theorem ty202 : AE.TypeOK Tryz.prog 202 ⟨.other, 1, 8, [Value.nilFunc]⟩ := AE.TypeOK.of (Tryz.isAgg202) Tryz.type202 rfl rfl rfl rfl rfl rfl (fun h => rfl)
theorem ty203 : AE.TypeOK Tryz.prog 203 ⟨.other, 1, 8, [Value.nilFunc]⟩ := AE.TypeOK.of (Tryz.isAgg203) Tryz.type203 rfl rfl rfl rfl rfl rfl (fun h => rfl)
theorem ty204 : AE.TypeOK Tryz.prog 204 ⟨.slice 40, 1, 24, [Value.slice none 0 0]⟩ := AE.TypeOK.of (Tryz.underlying204) Tryz.type204 rfl rfl rfl rfl rfl rfl (fun h => rfl)
theorem ty205 : AE.TypeOK Tryz.prog 205 ⟨.other, 1, 8, [Value.nilFunc]⟩ := AE.TypeOK.of (Tryz.isAgg205) Tryz.type205 rfl rfl rfl rfl rfl rfl (fun h => rfl)
theorem ty207 : AE.TypeOK Tryz.prog 207 ⟨.other, 1, 8, [Value.nilFunc]⟩ := AE.TypeOK.of (Tryz.isAgg207) Tryz.type207 rfl rfl rfl rfl rfl rfl (fun h => rfl)
theorem ty209 : AE.TypeOK Tryz.prog 209 ⟨.other, 1, 8, [Value.nilFunc]⟩ := AE.TypeOK.of (Tryz.isAgg209) Tryz.type209 rfl rfl rfl rfl rfl rfl (fun h => rfl)
theorem ty210 : AE.TypeOK Tryz.prog 210 ⟨.other, 1, 8, [Value.nilFunc]⟩ := AE.TypeOK.of (Tryz.isAgg210) Tryz.type210 rfl rfl rfl rfl rfl rfl (fun h => rfl)
theorem ty211 : AE.TypeOK Tryz.prog 211 ⟨.other, 1, 8, [Value.nilFunc]⟩ := AE.TypeOK.of (Tryz.isAgg211) Tryz.type211 rfl rfl rfl rfl rfl rfl (fun h => rfl)
theorem ty212 : AE.TypeOK Tryz.prog 212 ⟨.other, 1, 8, [Value.nilFunc]⟩ := AE.TypeOK.of (Tryz.isAgg212) Tryz.type212 rfl rfl rfl rfl rfl rfl (fun h => rfl)
theorem ty213 : AE.TypeOK Tryz.prog 213 ⟨.slice 215, 1, 24, [Value.slice none 0 0]⟩ := AE.TypeOK.of (Tryz.underlying213) Tryz.type213 rfl rfl rfl rfl rfl rfl (fun h => rfl)
theorem ty214 : AE.TypeOK Tryz.prog 214 ⟨.other, 1, 8, [Value.nilFunc]⟩ := AE.TypeOK.of (Tryz.isAgg214) Tryz.type214 rfl rfl rfl rfl rfl rfl (fun h => rfl)
theorem ty215 : AE.TypeOK Tryz.prog 215 ⟨.int IntKind.u32, 1, 4, [Value.int IntKind.u32 0]⟩ := AE.TypeOK.of (Tryz.underlying215) Tryz.type215 rfl rfl rfl rfl rfl rfl (fun h => rfl)
theorem ty216 : AE.TypeOK Tryz.prog 216 ⟨.int IntKind.u64, 1, 8, [Value.int IntKind.u64 0]⟩ := AE.TypeOK.of (Tryz.underlying216) Tryz.type216 rfl rfl rfl rfl rfl rfl (fun h => rfl)
theorem ty217 : AE.TypeOK Tryz.prog 217 ⟨.other, 1, 8, [Value.nilFunc]⟩ := AE.TypeOK.of (Tryz.isAgg217) Tryz.type217 rfl rfl rfl rfl rfl rfl (fun h => rfl)
theorem ty218 : AE.TypeOK Tryz.prog 218 ⟨.other, 1, 8, [Value.nilFunc]⟩ := AE.TypeOK.of (Tryz.isAgg218) Tryz.type218 rfl rfl rfl rfl rfl rfl (fun h => rfl)
theorem ty219 : AE.TypeOK Tryz.prog 219 ⟨.other, 1, 8, [Value.nilFunc]⟩ := AE.TypeOK.of (Tryz.isAgg219) Tryz.type219 rfl rfl rfl rfl rfl rfl (fun h => rfl)
theorem ty220 : AE.TypeOK Tryz.prog 220 ⟨.other, 1, 8, [Value.nilFunc]⟩ := AE.TypeOK.of (Tryz.isAgg220) Tryz.type220 rfl rfl rfl rfl rfl rfl (fun h => rfl)
theorem ty221 : AE.TypeOK Tryz.prog 221 ⟨.other, 1, 8, [Value.nilFunc]⟩ := AE.TypeOK.of (Tryz.isAgg221) Tryz.type221 rfl rfl rfl rfl rfl rfl (fun h => rfl)
theorem ty222 : AE.TypeOK Tryz.prog 222 ⟨.other, 1, 8, [Value.nilFunc]⟩ := AE.TypeOK.of (Tryz.isAgg222) Tryz.type222 rfl rfl rfl rfl rfl rfl (fun h => rfl)
theorem ty223 : AE.TypeOK Tryz.prog 223 ⟨.other, 1, 8, [Value.nilFunc]⟩ := AE.TypeOK.of (Tryz.isAgg223) Tryz.type223 rfl rfl rfl rfl rfl rfl (fun h => rfl)
theorem ty224 : AE.TypeOK Tryz.prog 224 ⟨.other, 1, 8, [Value.nilFunc]⟩ := AE.TypeOK.of (Tryz.isAgg224) Tryz.type224 rfl rfl rfl rfl rfl rfl (fun h => rfl)
theorem ty225 : AE.TypeOK Tryz.prog 225 ⟨.other, 1, 8, [Value.nilFunc]⟩ := AE.TypeOK.of (Tryz.isAgg225) Tryz.type225 rfl rfl rfl rfl rfl rfl (fun h => rfl)
theorem ty226 : AE.TypeOK Tryz.prog 226 ⟨.other, 1, 8, [Value.nilFunc]⟩ := AE.TypeOK.of (Tryz.isAgg226) Tryz.type226 rfl rfl rfl rfl rfl rfl (fun h => rfl)
theorem ty227 : AE.TypeOK Tryz.prog 227 ⟨.other, 1, 8, [Value.nilFunc]⟩ := AE.TypeOK.of (Tryz.isAgg227) Tryz.type227 rfl rfl rfl rfl rfl rfl (fun h => rfl)
theorem ty228 : AE.TypeOK Tryz.prog 228 ⟨.other, 1, 8, [Value.nilFunc]⟩ := AE.TypeOK.of (Tryz.isAgg228) Tryz.type228 rfl rfl rfl rfl rfl rfl (fun h => rfl)
theorem ty229 : AE.TypeOK Tryz.prog 229 ⟨.other, 1, 8, [Value.nilFunc]⟩ := AE.TypeOK.of (Tryz.isAgg229) Tryz.type229 rfl rfl rfl rfl rfl rfl (fun h => rfl)
theorem ty230 : AE.TypeOK Tryz.prog 230 ⟨.other, 1, 8, [Value.nilFunc]⟩ := AE.TypeOK.of (Tryz.isAgg230) Tryz.type230 rfl rfl rfl rfl rfl rfl (fun h => rfl)
theorem ty231 : AE.TypeOK Tryz.prog 231 ⟨.other, 1, 8, [Value.nilFunc]⟩ := AE.TypeOK.of (Tryz.isAgg231) Tryz.type231 rfl rfl rfl rfl rfl rfl (fun h => rfl)
theorem ty232 : AE.TypeOK Tryz.prog 232 ⟨.other, 1, 8, [Value.nilFunc]⟩ := AE.TypeOK.of (Tryz.isAgg232) Tryz.type232 rfl rfl rfl rfl rfl rfl (fun h => rfl)
theorem ty233 : AE.TypeOK Tryz.prog 233 ⟨.other, 1, 8, [Value.nilFunc]⟩ := AE.TypeOK.of (Tryz.isAgg233) Tryz.type233 rfl rfl rfl rfl rfl rfl (fun h => rfl)
theorem ty234 : AE.TypeOK Tryz.prog 234 ⟨.other, 1, 8, [Value.nilFunc]⟩ := AE.TypeOK.of (Tryz.isAgg234) Tryz.type234 rfl rfl rfl rfl rfl rfl (fun h => rfl)
theorem ty235 : AE.TypeOK Tryz.prog 235 ⟨.other, 1, 8, [Value.nilFunc]⟩ := AE.TypeOK.of (Tryz.isAgg235) Tryz.type235 rfl rfl rfl rfl rfl rfl (fun h => rfl)
theorem ty236 : AE.TypeOK Tryz.prog 236 ⟨.other, 1, 8, [Value.nilFunc]⟩ := AE.TypeOK.of (Tryz.isAgg236) Tryz.type236 rfl rfl rfl rfl rfl rfl (fun h => rfl)
theorem ty237 : AE.TypeOK Tryz.prog 237 ⟨.other, 1, 8, [Value.nilFunc]⟩ := AE.TypeOK.of (Tryz.isAgg237) Tryz.type237 rfl rfl rfl rfl rfl rfl (fun h => rfl)
theorem ty238 : AE.TypeOK Tryz.prog 238 ⟨.other, 1, 8, [Value.nilFunc]⟩ := AE.TypeOK.of (Tryz.isAgg238) Tryz.type238 rfl rfl rfl rfl rfl rfl (fun h => rfl)
theorem ty239 : AE.TypeOK Tryz.prog 239 ⟨.other, 1, 8, [Value.nilFunc]⟩ := AE.TypeOK.of (Tryz.isAgg239) Tryz.type239 rfl rfl rfl rfl rfl rfl (fun h => rfl)
theorem ty240 : AE.TypeOK Tryz.prog 240 ⟨.other, 1, 8, [Value.nilFunc]⟩ := AE.TypeOK.of (Tryz.isAgg240) Tryz.type240 rfl rfl rfl rfl rfl rfl (fun h => rfl)
theorem ty242 : AE.TypeOK Tryz.prog 242 ⟨.other, 1, 8, [Value.nilFunc]⟩ := AE.TypeOK.of (Tryz.isAgg242) Tryz.type242 rfl rfl rfl rfl rfl rfl (fun h => rfl)
theorem ty243 : AE.TypeOK Tryz.prog 243 ⟨.other, 1, 8, [Value.nilFunc]⟩ := AE.TypeOK.of (Tryz.isAgg243) Tryz.type243 rfl rfl rfl rfl rfl rfl (fun h => rfl)
theorem ty244 : AE.TypeOK Tryz.prog 244 ⟨.other, 1, 8, [Value.nilFunc]⟩ := AE.TypeOK.of (Tryz.isAgg244) Tryz.type244 rfl rfl rfl rfl rfl rfl (fun h => rfl)
theorem ty245 : AE.TypeOK Tryz.prog 245 ⟨.other, 1, 8, [Value.nilFunc]⟩ := AE.TypeOK.of (Tryz.isAgg245) Tryz.type245 rfl rfl rfl rfl rfl rfl (fun h => rfl)
theorem ty247 : AE.TypeOK Tryz.prog 247 ⟨.other, 1, 8, [Value.nilFunc]⟩ := AE.TypeOK.of (Tryz.isAgg247) Tryz.type247 rfl rfl rfl rfl rfl rfl (fun h => rfl)
theorem ty248 : AE.TypeOK Tryz.prog 248 ⟨.array 8 5, 8, 8, [Value.int IntKind.u8 0, Value.int IntKind.u8 0, Value.int IntKind.u8 0, Value.int IntKind.u8 0,
  Value.int IntKind.u8 0, Value.int IntKind.u8 0, Value.int IntKind.u8 0,
  Value.int IntKind.u8 0]⟩ := AE.TypeOK.of (Tryz.underlying248) Tryz.type248 rfl rfl rfl rfl rfl rfl (fun h => by cases h)
theorem ty249 : AE.TypeOK Tryz.prog 249 ⟨.other, 1, 8, [Value.nilFunc]⟩ := AE.TypeOK.of (Tryz.isAgg249) Tryz.type249 rfl rfl rfl rfl rfl rfl (fun h => rfl)
theorem ty251 : AE.TypeOK Tryz.prog 251 ⟨.other, 1, 8, [Value.nilFunc]⟩ := AE.TypeOK.of (Tryz.isAgg251) Tryz.type251 rfl rfl rfl rfl rfl rfl (fun h => rfl)
theorem ty252 : AE.TypeOK Tryz.prog 252 ⟨.other, 1, 8, [Value.nilFunc]⟩ := AE.TypeOK.of (Tryz.isAgg252) Tryz.type252 rfl rfl rfl rfl rfl rfl (fun h => rfl)
theorem ty256 : AE.TypeOK Tryz.prog 256 ⟨.other, 1, 8, [Value.nilFunc]⟩ := AE.TypeOK.of (Tryz.isAgg256) Tryz.type256 rfl rfl rfl rfl rfl rfl (fun h => rfl)
theorem ty257 : AE.TypeOK Tryz.prog 257 ⟨.other, 1, 8, [Value.nilFunc]⟩ := AE.TypeOK.of (Tryz.isAgg257) Tryz.type257 rfl rfl rfl rfl rfl rfl (fun h => rfl)
theorem ty258 : AE.TypeOK Tryz.prog 258 ⟨.ptr 254, 1, 8, [Value.pointer none]⟩ := AE.TypeOK.of (Tryz.underlying258) Tryz.type258 rfl rfl rfl rfl rfl rfl (fun h => rfl)
theorem ty259 : AE.TypeOK Tryz.prog 259 ⟨.other, 1, 8, [Value.nilFunc]⟩ := AE.TypeOK.of (Tryz.isAgg259) Tryz.type259 rfl rfl rfl rfl rfl rfl (fun h => rfl)
theorem ty260 : AE.TypeOK Tryz.prog 260 ⟨.slice 72, 1, 24, [Value.slice none 0 0]⟩ := AE.TypeOK.of (Tryz.underlying260) Tryz.type260 rfl rfl rfl rfl rfl rfl (fun h => rfl)
theorem ty261 : AE.TypeOK Tryz.prog 261 ⟨.other, 1, 8, [Value.nilFunc]⟩ := AE.TypeOK.of (Tryz.isAgg261) Tryz.type261 rfl rfl rfl rfl rfl rfl (fun h => rfl)
theorem ty262 : AE.TypeOK Tryz.prog 262 ⟨.other, 1, 8, [Value.nilFunc]⟩ := AE.TypeOK.of (Tryz.isAgg262) Tryz.type262 rfl rfl rfl rfl rfl rfl (fun h => rfl)
theorem ty263 : AE.TypeOK Tryz.prog 263 ⟨.other, 1, 8, [Value.nilFunc]⟩ := AE.TypeOK.of (Tryz.isAgg263) Tryz.type263 rfl rfl rfl rfl rfl rfl (fun h => rfl)
theorem ty264 : AE.TypeOK Tryz.prog 264 ⟨.other, 1, 8, [Value.nilFunc]⟩ := AE.TypeOK.of (Tryz.isAgg264) Tryz.type264 rfl rfl rfl rfl rfl rfl (fun h => rfl)
theorem ty265 : AE.TypeOK Tryz.prog 265 ⟨.other, 1, 8, [Value.nilFunc]⟩ := AE.TypeOK.of (Tryz.isAgg265) Tryz.type265 rfl rfl rfl rfl rfl rfl (fun h => rfl)
theorem ty266 : AE.TypeOK Tryz.prog 266 ⟨.other, 1, 8, [Value.nilFunc]⟩ := AE.TypeOK.of (Tryz.isAgg266) Tryz.type266 rfl rfl rfl rfl rfl rfl (fun h => rfl)
theorem ty267 : AE.TypeOK Tryz.prog 267 ⟨.other, 1, 8, [Value.nilFunc]⟩ := AE.TypeOK.of (Tryz.isAgg267) Tryz.type267 rfl rfl rfl rfl rfl rfl (fun h => rfl)
theorem ty268 : AE.TypeOK Tryz.prog 268 ⟨.other, 1, 8, [Value.nilFunc]⟩ := AE.TypeOK.of (Tryz.isAgg268) Tryz.type268 rfl rfl rfl rfl rfl rfl (fun h => rfl)
theorem ty269 : AE.TypeOK Tryz.prog 269 ⟨.other, 1, 8, [Value.nilFunc]⟩ := AE.TypeOK.of (Tryz.isAgg269) Tryz.type269 rfl rfl rfl rfl rfl rfl (fun h => rfl)
theorem ty271 : AE.TypeOK Tryz.prog 271 ⟨.other, 1, 8, [Value.nilFunc]⟩ := AE.TypeOK.of (Tryz.isAgg271) Tryz.type271 rfl rfl rfl rfl rfl rfl (fun h => rfl)
theorem ty272 : AE.TypeOK Tryz.prog 272 ⟨.other, 1, 8, [Value.nilFunc]⟩ := AE.TypeOK.of (Tryz.isAgg272) Tryz.type272 rfl rfl rfl rfl rfl rfl (fun h => rfl)
theorem ty273 : AE.TypeOK Tryz.prog 273 ⟨.other, 1, 8, [Value.nilFunc]⟩ := AE.TypeOK.of (Tryz.isAgg273) Tryz.type273 rfl rfl rfl rfl rfl rfl (fun h => rfl)
theorem ty274 : AE.TypeOK Tryz.prog 274 ⟨.other, 1, 8, [Value.nilFunc]⟩ := AE.TypeOK.of (Tryz.isAgg274) Tryz.type274 rfl rfl rfl rfl rfl rfl (fun h => rfl)
theorem ty275 : AE.TypeOK Tryz.prog 275 ⟨.other, 1, 8, [Value.nilFunc]⟩ := AE.TypeOK.of (Tryz.isAgg275) Tryz.type275 rfl rfl rfl rfl rfl rfl (fun h => rfl)
theorem ty277 : AE.TypeOK Tryz.prog 277 ⟨.other, 1, 8, [Value.nilFunc]⟩ := AE.TypeOK.of (Tryz.isAgg277) Tryz.type277 rfl rfl rfl rfl rfl rfl (fun h => rfl)
theorem ty278 : AE.TypeOK Tryz.prog 278 ⟨.other, 1, 8, [Value.nilFunc]⟩ := AE.TypeOK.of (Tryz.isAgg278) Tryz.type278 rfl rfl rfl rfl rfl rfl (fun h => rfl)
theorem ty279 : AE.TypeOK Tryz.prog 279 ⟨.other, 1, 8, [Value.nilFunc]⟩ := AE.TypeOK.of (Tryz.isAgg279) Tryz.type279 rfl rfl rfl rfl rfl rfl (fun h => rfl)
theorem ty280 : AE.TypeOK Tryz.prog 280 ⟨.array 64 5, 64, 64, [Value.int IntKind.u8 0, Value.int IntKind.u8 0, Value.int IntKind.u8 0, Value.int IntKind.u8 0,
  Value.int IntKind.u8 0, Value.int IntKind.u8 0, Value.int IntKind.u8 0,
  Value.int IntKind.u8 0, Value.int IntKind.u8 0, Value.int IntKind.u8 0,
  Value.int IntKind.u8 0, Value.int IntKind.u8 0, Value.int IntKind.u8 0,
  Value.int IntKind.u8 0, Value.int IntKind.u8 0, Value.int IntKind.u8 0,
  Value.int IntKind.u8 0, Value.int IntKind.u8 0, Value.int IntKind.u8 0,
  Value.int IntKind.u8 0, Value.int IntKind.u8 0, Value.int IntKind.u8 0,
  Value.int IntKind.u8 0, Value.int IntKind.u8 0, Value.int IntKind.u8 0,
  Value.int IntKind.u8 0, Value.int IntKind.u8 0, Value.int IntKind.u8 0,
  Value.int IntKind.u8 0, Value.int IntKind.u8 0, Value.int IntKind.u8 0,
  Value.int IntKind.u8 0, Value.int IntKind.u8 0, Value.int IntKind.u8 0,
  Value.int IntKind.u8 0, Value.int IntKind.u8 0, Value.int IntKind.u8 0,
  Value.int IntKind.u8 0, Value.int IntKind.u8 0, Value.int IntKind.u8 0,
  Value.int IntKind.u8 0, Value.int IntKind.u8 0, Value.int IntKind.u8 0,
  Value.int IntKind.u8 0, Value.int IntKind.u8 0, Value.int IntKind.u8 0,
  Value.int IntKind.u8 0, Value.int IntKind.u8 0, Value.int IntKind.u8 0,
  Value.int IntKind.u8 0, Value.int IntKind.u8 0, Value.int IntKind.u8 0,
  Value.int IntKind.u8 0, Value.int IntKind.u8 0, Value.int IntKind.u8 0,
  Value.int IntKind.u8 0, Value.int IntKind.u8 0, Value.int IntKind.u8 0,
  Value.int IntKind.u8 0, Value.int IntKind.u8 0, Value.int IntKind.u8 0,
  Value.int IntKind.u8 0, Value.int IntKind.u8 0, Value.int IntKind.u8 0]⟩ := AE.TypeOK.of (Tryz.underlying280) Tryz.type280 rfl rfl rfl rfl rfl rfl (fun h => by cases h)
theorem ty282 : AE.TypeOK Tryz.prog 282 ⟨.struct [(0, 1, false), (1, 1, false)] (some [5, 5]), 2, 2, [Value.int IntKind.u8 0, Value.int IntKind.u8 0]⟩ := AE.TypeOK.of (AE.KindOK.structEq Tryz.underlying282 ⟨⟨rfl, AE.size_of Tryz.type5 rfl, Tryz.isAgg5, fun _ => rfl⟩, ⟨rfl, AE.size_of Tryz.type5 rfl, Tryz.isAgg5, fun _ => rfl⟩, trivial⟩ (by kernel_rfl) (by kernel_rfl) ⟨⟨rfl, by decide⟩, ⟨rfl, by decide⟩, trivial⟩) Tryz.type282 rfl rfl rfl rfl rfl rfl (fun h => by cases h)
theorem ty283 : AE.TypeOK Tryz.prog 283 ⟨.struct [(0, 1, false), (1, 1, false)] (some [5, 5]), 2, 2, [Value.int IntKind.u8 0, Value.int IntKind.u8 0]⟩ := AE.TypeOK.of (AE.KindOK.structEq Tryz.underlying283 ⟨⟨rfl, AE.size_of Tryz.type5 rfl, Tryz.isAgg5, fun _ => rfl⟩, ⟨rfl, AE.size_of Tryz.type5 rfl, Tryz.isAgg5, fun _ => rfl⟩, trivial⟩ (by kernel_rfl) (by kernel_rfl) ⟨⟨rfl, by decide⟩, ⟨rfl, by decide⟩, trivial⟩) Tryz.type283 rfl rfl rfl rfl rfl rfl (fun h => by cases h)
theorem ty284 : AE.TypeOK Tryz.prog 284 ⟨.array 16 283, 32, 32, [Value.int IntKind.u8 0, Value.int IntKind.u8 0, Value.int IntKind.u8 0, Value.int IntKind.u8 0,
  Value.int IntKind.u8 0, Value.int IntKind.u8 0, Value.int IntKind.u8 0,
  Value.int IntKind.u8 0, Value.int IntKind.u8 0, Value.int IntKind.u8 0,
  Value.int IntKind.u8 0, Value.int IntKind.u8 0, Value.int IntKind.u8 0,
  Value.int IntKind.u8 0, Value.int IntKind.u8 0, Value.int IntKind.u8 0,
  Value.int IntKind.u8 0, Value.int IntKind.u8 0, Value.int IntKind.u8 0,
  Value.int IntKind.u8 0, Value.int IntKind.u8 0, Value.int IntKind.u8 0,
  Value.int IntKind.u8 0, Value.int IntKind.u8 0, Value.int IntKind.u8 0,
  Value.int IntKind.u8 0, Value.int IntKind.u8 0, Value.int IntKind.u8 0,
  Value.int IntKind.u8 0, Value.int IntKind.u8 0, Value.int IntKind.u8 0,
  Value.int IntKind.u8 0]⟩ := AE.TypeOK.of (Tryz.underlying284) Tryz.type284 rfl rfl rfl rfl rfl rfl (fun h => by cases h)
theorem ty285 : AE.TypeOK Tryz.prog 285 ⟨.other, 1, 8, [Value.nilFunc]⟩ := AE.TypeOK.of (Tryz.isAgg285) Tryz.type285 rfl rfl rfl rfl rfl rfl (fun h => rfl)
theorem ty286 : AE.TypeOK Tryz.prog 286 ⟨.other, 1, 8, [Value.nilFunc]⟩ := AE.TypeOK.of (Tryz.isAgg286) Tryz.type286 rfl rfl rfl rfl rfl rfl (fun h => rfl)
theorem ty287 : AE.TypeOK Tryz.prog 287 ⟨.other, 1, 8, [Value.nilFunc]⟩ := AE.TypeOK.of (Tryz.isAgg287) Tryz.type287 rfl rfl rfl rfl rfl rfl (fun h => rfl)
theorem ty288 : AE.TypeOK Tryz.prog 288 ⟨.struct [(0, 1, false), (1, 1, false), (2, 1, false), (3, 1, false)] none, 4, 40, [Value.pointer none, Value.pointer none, Value.pointer none, Value.string { data := #[] }]⟩ := AE.TypeOK.of (AE.KindOK.struct Tryz.underlying288 ⟨⟨rfl, AE.size_of Tryz.type17 rfl, Tryz.isAgg17, fun _ => rfl⟩, ⟨rfl, AE.size_of Tryz.type17 rfl, Tryz.isAgg17, fun _ => rfl⟩, ⟨rfl, AE.size_of Tryz.type17 rfl, Tryz.isAgg17, fun _ => rfl⟩, ⟨rfl, AE.size_of Tryz.type9 rfl, Tryz.isAgg9, fun _ => rfl⟩, trivial⟩) Tryz.type288 rfl rfl rfl rfl rfl rfl (fun h => by cases h)
theorem ty289 : AE.TypeOK Tryz.prog 289 ⟨.struct [(0, 1, false), (1, 1, false), (2, 1, false), (3, 1, false)] none, 4, 40, [Value.pointer none, Value.pointer none, Value.pointer none, Value.string { data := #[] }]⟩ := AE.TypeOK.of (AE.KindOK.struct Tryz.underlying289 ⟨⟨rfl, AE.size_of Tryz.type17 rfl, Tryz.isAgg17, fun _ => rfl⟩, ⟨rfl, AE.size_of Tryz.type17 rfl, Tryz.isAgg17, fun _ => rfl⟩, ⟨rfl, AE.size_of Tryz.type17 rfl, Tryz.isAgg17, fun _ => rfl⟩, ⟨rfl, AE.size_of Tryz.type9 rfl, Tryz.isAgg9, fun _ => rfl⟩, trivial⟩) Tryz.type289 rfl rfl rfl rfl rfl rfl (fun h => by cases h)
theorem ty290 : AE.TypeOK Tryz.prog 290 ⟨.array 0 16, 0, 0, []⟩ := AE.TypeOK.of (Tryz.underlying290) Tryz.type290 rfl rfl rfl rfl rfl rfl (fun h => by cases h)
theorem ty291 : AE.TypeOK Tryz.prog 291 ⟨.struct [(0, 0, true)] none, 0, 0, []⟩ := AE.TypeOK.of (AE.KindOK.struct Tryz.underlying291 ⟨⟨rfl, AE.size_of Tryz.type290 rfl, Tryz.isAgg290, fun h => by cases h⟩, trivial⟩) Tryz.type291 rfl rfl rfl rfl rfl rfl (fun h => by cases h)
theorem ty292 : AE.TypeOK Tryz.prog 292 ⟨.struct [(0, 0, true)] none, 0, 0, []⟩ := AE.TypeOK.of (AE.KindOK.struct Tryz.underlying292 ⟨⟨rfl, AE.size_of Tryz.type290 rfl, Tryz.isAgg290, fun h => by cases h⟩, trivial⟩) Tryz.type292 rfl rfl rfl rfl rfl rfl (fun h => by cases h)
theorem ty293 : AE.TypeOK Tryz.prog 293 ⟨.other, 1, 8, [Value.nilFunc]⟩ := AE.TypeOK.of (Tryz.isAgg293) Tryz.type293 rfl rfl rfl rfl rfl rfl (fun h => rfl)
theorem ty294 : AE.TypeOK Tryz.prog 294 ⟨.int IntKind.u8, 1, 1, [Value.int IntKind.u8 0]⟩ := AE.TypeOK.of (Tryz.underlying294) Tryz.type294 rfl rfl rfl rfl rfl rfl (fun h => rfl)
theorem ty295 : AE.TypeOK Tryz.prog 295 ⟨.int IntKind.u8, 1, 1, [Value.int IntKind.u8 0]⟩ := AE.TypeOK.of (Tryz.underlying295) Tryz.type295 rfl rfl rfl rfl rfl rfl (fun h => rfl)
theorem ty296 : AE.TypeOK Tryz.prog 296 ⟨.other, 1, 8, [Value.nilFunc]⟩ := AE.TypeOK.of (Tryz.isAgg296) Tryz.type296 rfl rfl rfl rfl rfl rfl (fun h => rfl)
theorem ty297 : AE.TypeOK Tryz.prog 297 ⟨.ptr 5, 1, 8, [Value.pointer none]⟩ := AE.TypeOK.of (Tryz.underlying297) Tryz.type297 rfl rfl rfl rfl rfl rfl (fun h => rfl)
theorem ty298 : AE.TypeOK Tryz.prog 298 ⟨.int IntKind.i32, 1, 4, [Value.int IntKind.i32 0]⟩ := AE.TypeOK.of (Tryz.underlying298) Tryz.type298 rfl rfl rfl rfl rfl rfl (fun h => rfl)
theorem ty299 : AE.TypeOK Tryz.prog 299 ⟨.int IntKind.i32, 1, 4, [Value.int IntKind.i32 0]⟩ := AE.TypeOK.of (Tryz.underlying299) Tryz.type299 rfl rfl rfl rfl rfl rfl (fun h => rfl)
theorem ty300 : AE.TypeOK Tryz.prog 300 ⟨.struct [(0, 1, false), (1, 1, false), (2, 1, false), (3, 1, false), (4, 1, false), (5, 1, false), (6, 1, false), (7, 1, false), (8, 1, false), (9, 1, false), (10, 1, false)] none, 11, 48, [Value.int IntKind.u64 0, Value.int IntKind.u64 0, Value.int IntKind.u32 0,
  Value.int IntKind.u8 0, Value.int IntKind.u8 0, Value.int IntKind.u8 0,
  Value.int IntKind.u8 0, Value.nilFunc, Value.pointer none, Value.int IntKind.i32 0,
  Value.int IntKind.i32 0]⟩ := AE.TypeOK.of (AE.KindOK.struct Tryz.underlying300 ⟨⟨rfl, AE.size_of Tryz.type12 rfl, Tryz.isAgg12, fun _ => rfl⟩, ⟨rfl, AE.size_of Tryz.type12 rfl, Tryz.isAgg12, fun _ => rfl⟩, ⟨rfl, AE.size_of Tryz.type215 rfl, Tryz.isAgg215, fun _ => rfl⟩, ⟨rfl, AE.size_of Tryz.type294 rfl, Tryz.isAgg294, fun _ => rfl⟩, ⟨rfl, AE.size_of Tryz.type5 rfl, Tryz.isAgg5, fun _ => rfl⟩, ⟨rfl, AE.size_of Tryz.type5 rfl, Tryz.isAgg5, fun _ => rfl⟩, ⟨rfl, AE.size_of Tryz.type295 rfl, Tryz.isAgg295, fun _ => rfl⟩, ⟨rfl, AE.size_of Tryz.type296 rfl, Tryz.isAgg296, fun _ => rfl⟩, ⟨rfl, AE.size_of Tryz.type297 rfl, Tryz.isAgg297, fun _ => rfl⟩, ⟨rfl, AE.size_of Tryz.type298 rfl, Tryz.isAgg298, fun _ => rfl⟩, ⟨rfl, AE.size_of Tryz.type299 rfl, Tryz.isAgg299, fun _ => rfl⟩, trivial⟩) Tryz.type300 rfl rfl rfl rfl rfl rfl (fun h => by cases h)
theorem ty301 : AE.TypeOK Tryz.prog 301 ⟨.struct [(0, 1, false), (1, 1, false), (2, 1, false), (3, 1, false), (4, 1, false), (5, 1, false), (6, 1, false), (7, 1, false), (8, 1, false), (9, 1, false), (10, 1, false)] none, 11, 48, [Value.int IntKind.u64 0, Value.int IntKind.u64 0, Value.int IntKind.u32 0,
  Value.int IntKind.u8 0, Value.int IntKind.u8 0, Value.int IntKind.u8 0,
  Value.int IntKind.u8 0, Value.nilFunc, Value.pointer none, Value.int IntKind.i32 0,
  Value.int IntKind.i32 0]⟩ := AE.TypeOK.of (AE.KindOK.struct Tryz.underlying301 ⟨⟨rfl, AE.size_of Tryz.type12 rfl, Tryz.isAgg12, fun _ => rfl⟩, ⟨rfl, AE.size_of Tryz.type12 rfl, Tryz.isAgg12, fun _ => rfl⟩, ⟨rfl, AE.size_of Tryz.type215 rfl, Tryz.isAgg215, fun _ => rfl⟩, ⟨rfl, AE.size_of Tryz.type294 rfl, Tryz.isAgg294, fun _ => rfl⟩, ⟨rfl, AE.size_of Tryz.type5 rfl, Tryz.isAgg5, fun _ => rfl⟩, ⟨rfl, AE.size_of Tryz.type5 rfl, Tryz.isAgg5, fun _ => rfl⟩, ⟨rfl, AE.size_of Tryz.type295 rfl, Tryz.isAgg295, fun _ => rfl⟩, ⟨rfl, AE.size_of Tryz.type296 rfl, Tryz.isAgg296, fun _ => rfl⟩, ⟨rfl, AE.size_of Tryz.type297 rfl, Tryz.isAgg297, fun _ => rfl⟩, ⟨rfl, AE.size_of Tryz.type298 rfl, Tryz.isAgg298, fun _ => rfl⟩, ⟨rfl, AE.size_of Tryz.type299 rfl, Tryz.isAgg299, fun _ => rfl⟩, trivial⟩) Tryz.type301 rfl rfl rfl rfl rfl rfl (fun h => by cases h)
theorem ty302 : AE.TypeOK Tryz.prog 302 ⟨.other, 1, 8, [Value.pointer none]⟩ := AE.TypeOK.of (Tryz.isAgg302) Tryz.type302 rfl rfl rfl rfl rfl rfl (fun h => rfl)
def Tab : AE.Tab := [
  (3, ⟨.int IntKind.i64, 1, 8, [Value.int IntKind.i64 0]⟩),
  (29, ⟨.struct [(0, 1, false), (1, 1, false), (2, 1, false)] (some [4, 9, 9]), 3, 40, [Value.bool false, Value.string { data := #[] }, Value.string { data := #[] }]⟩),
  (37, ⟨.struct [(0, 1, false), (1, 1, false), (2, 1, false), (3, 1, false), (4, 1, false)] none, 5, 104, [Value.int IntKind.i64 0, Value.slice none 0 0, Value.slice none 0 0, Value.slice none 0 0,
  Value.slice none 0 0]⟩),
  (31, ⟨.struct [(0, 1, false), (1, 1, false), (2, 1, false), (3, 1, false), (4, 1, false), (5, 3, true)] none, 8, 160, [Value.slice none 0 0, Value.slice none 0 0, Value.slice none 0 0, Value.slice none 0 0,
  Value.slice none 0 0, Value.bool false, Value.string { data := #[] }, Value.string { data := #[] }]⟩),
  (44, ⟨.struct [(0, 3, true), (3, 3, true)] (some [29, 29]), 6, 80, [Value.bool false, Value.string { data := #[] }, Value.string { data := #[] }, Value.bool false,
  Value.string { data := #[] }, Value.string { data := #[] }]⟩),
  (9, ⟨.str, 1, 16, [Value.string { data := #[] }]⟩),
  (76, ⟨.struct [(0, 1, false), (1, 1, false), (2, 1, false), (3, 1, false)] none, 4, 64, [Value.slice none 0 0, Value.slice none 0 0, Value.bool false, Value.int IntKind.i64 0]⟩),
  (4, ⟨.bool, 1, 1, [Value.bool false]⟩),
  (74, ⟨.slice 29, 1, 24, [Value.slice none 0 0]⟩),
  (66, ⟨.struct [(0, 6, true), (6, 4, true)] (some [44, 64]), 10, 128, [Value.bool false, Value.string { data := #[] }, Value.string { data := #[] }, Value.bool false,
  Value.string { data := #[] }, Value.string { data := #[] }, Value.bool false, Value.bool false,
  Value.string { data := #[] }, Value.string { data := #[] }]⟩),
  (72, ⟨.int IntKind.u64, 1, 8, [Value.int IntKind.u64 0]⟩),
  (32, ⟨.slice 76, 1, 24, [Value.slice none 0 0]⟩),
  (40, ⟨.int IntKind.i64, 1, 8, [Value.int IntKind.i64 0]⟩),
  (64, ⟨.struct [(0, 1, false), (1, 3, true)] (some [4, 29]), 4, 48, [Value.bool false, Value.bool false, Value.string { data := #[] }, Value.string { data := #[] }]⟩),
  (215, ⟨.int IntKind.u32, 1, 4, [Value.int IntKind.u32 0]⟩),
  (34, ⟨.slice 44, 1, 24, [Value.slice none 0 0]⟩),
  (79, ⟨.struct [(0, 1, false), (1, 10, true), (11, 1, false)] none, 12, 168, [Value.string { data := #[] }, Value.bool false, Value.string { data := #[] }, Value.string { data := #[] },
  Value.bool false, Value.string { data := #[] }, Value.string { data := #[] }, Value.bool false,
  Value.bool false, Value.string { data := #[] }, Value.string { data := #[] }, Value.slice none 0 0]⟩),
  (5, ⟨.int IntKind.u8, 1, 1, [Value.int IntKind.u8 0]⟩),
  (23, ⟨.slice 79, 1, 24, [Value.slice none 0 0]⟩),
  (213, ⟨.slice 215, 1, 24, [Value.slice none 0 0]⟩),
  (33, ⟨.slice 66, 1, 24, [Value.slice none 0 0]⟩),
  (82, ⟨.struct [(0, 3, true), (3, 3, true), (6, 3, true), (9, 3, true), (12, 3, true), (15, 1, false)] none, 16, 224, [Value.bool false, Value.string { data := #[] }, Value.string { data := #[] }, Value.bool false,
  Value.string { data := #[] }, Value.string { data := #[] }, Value.bool false,
  Value.string { data := #[] }, Value.string { data := #[] }, Value.bool false,
  Value.string { data := #[] }, Value.string { data := #[] }, Value.bool false,
  Value.string { data := #[] }, Value.string { data := #[] }, Value.slice none 0 0]⟩),
  (25, ⟨.slice 99, 1, 24, [Value.slice none 0 0]⟩),
  (77, ⟨.slice 82, 1, 24, [Value.slice none 0 0]⟩),
  (35, ⟨.slice 4, 1, 24, [Value.slice none 0 0]⟩),
  (260, ⟨.slice 72, 1, 24, [Value.slice none 0 0]⟩),
  (83, ⟨.slice 5, 1, 24, [Value.slice none 0 0]⟩),
  (26, ⟨.slice 68, 1, 24, [Value.slice none 0 0]⟩),
  (21, ⟨.int IntKind.i32, 1, 4, [Value.int IntKind.i32 0]⟩),
  (27, ⟨.slice 48, 1, 24, [Value.slice none 0 0]⟩),
  (46, ⟨.struct [(0, 6, true), (6, 6, true)] (some [44, 44]), 12, 160, [Value.bool false, Value.string { data := #[] }, Value.string { data := #[] }, Value.bool false,
  Value.string { data := #[] }, Value.string { data := #[] }, Value.bool false,
  Value.string { data := #[] }, Value.string { data := #[] }, Value.bool false,
  Value.string { data := #[] }, Value.string { data := #[] }]⟩),
  (68, ⟨.struct [(0, 1, false), (1, 10, true), (11, 3, true)] (some [9, 66, 29]), 14, 184, [Value.string { data := #[] }, Value.bool false, Value.string { data := #[] }, Value.string { data := #[] },
  Value.bool false, Value.string { data := #[] }, Value.string { data := #[] }, Value.bool false,
  Value.bool false, Value.string { data := #[] }, Value.string { data := #[] }, Value.bool false,
  Value.string { data := #[] }, Value.string { data := #[] }]⟩),
  (99, ⟨.struct [(0, 1, false), (1, 1, false), (2, 10, true)] none, 12, 168, [Value.string { data := #[] }, Value.slice none 0 0, Value.bool false, Value.string { data := #[] },
  Value.string { data := #[] }, Value.bool false, Value.string { data := #[] },
  Value.string { data := #[] }, Value.bool false, Value.bool false, Value.string { data := #[] },
  Value.string { data := #[] }]⟩),
  (48, ⟨.struct [(0, 1, false), (1, 12, true)] (some [9, 46]), 13, 176, [Value.string { data := #[] }, Value.bool false, Value.string { data := #[] }, Value.string { data := #[] },
  Value.bool false, Value.string { data := #[] }, Value.string { data := #[] }, Value.bool false,
  Value.string { data := #[] }, Value.string { data := #[] }, Value.bool false,
  Value.string { data := #[] }, Value.string { data := #[] }]⟩),
  (22, ⟨.slice 3, 1, 24, [Value.slice none 0 0]⟩),
  (24, ⟨.slice 34, 1, 24, [Value.slice none 0 0]⟩),
  (176, ⟨.slice 9, 1, 24, [Value.slice none 0 0]⟩),
  (118, ⟨.struct [(0, 1, false), (1, 1, false)] (some [3, 3]), 2, 16, [Value.int IntKind.i64 0, Value.int IntKind.i64 0]⟩),
  (87, ⟨.slice 74, 1, 24, [Value.slice none 0 0]⟩),
  (283, ⟨.struct [(0, 1, false), (1, 1, false)] (some [5, 5]), 2, 2, [Value.int IntKind.u8 0, Value.int IntKind.u8 0]⟩),
  (145, ⟨.struct [(0, 1, false)] none, 1, 24, [Value.slice none 0 0]⟩),
  (188, ⟨.struct [(0, 1, false)] none, 1, 24, [Value.slice none 0 0]⟩),
  (195, ⟨.map 9 4, 1, 8, [Value.map none]⟩),
  (8, ⟨.struct [(0, 1, false), (1, 1, false), (2, 1, false), (3, 1, false)] (some [2, 3, 4, 6]), 4, 24, [Value.int IntKind.i64 0, Value.int IntKind.i64 0, Value.bool false, Value.int IntKind.u8 0]⟩),
  (10, ⟨.str, 1, 16, [Value.string { data := #[] }]⟩),
  (11, ⟨.str, 1, 16, [Value.string { data := #[] }]⟩),
  (14, ⟨.struct [(0, 1, false), (1, 1, false)] none, 2, 24, [Value.string { data := #[] }, Value.int IntKind.u64 0]⟩),
  (15, ⟨.ptr 289, 1, 8, [Value.pointer none]⟩),
  (16, ⟨.ptr 292, 1, 8, [Value.pointer none]⟩),
  (19, ⟨.struct [(0, 1, false)] none, 1, 8, [Value.pointer none]⟩),
  (112, ⟨.slice 118, 1, 24, [Value.slice none 0 0]⟩),
  (204, ⟨.slice 40, 1, 24, [Value.slice none 0 0]⟩),
  (248, ⟨.array 8 5, 8, 8, [Value.int IntKind.u8 0, Value.int IntKind.u8 0, Value.int IntKind.u8 0, Value.int IntKind.u8 0,
  Value.int IntKind.u8 0, Value.int IntKind.u8 0, Value.int IntKind.u8 0,
  Value.int IntKind.u8 0]⟩),
  (280, ⟨.array 64 5, 64, 64, [Value.int IntKind.u8 0, Value.int IntKind.u8 0, Value.int IntKind.u8 0, Value.int IntKind.u8 0,
  Value.int IntKind.u8 0, Value.int IntKind.u8 0, Value.int IntKind.u8 0,
  Value.int IntKind.u8 0, Value.int IntKind.u8 0, Value.int IntKind.u8 0,
  Value.int IntKind.u8 0, Value.int IntKind.u8 0, Value.int IntKind.u8 0,
  Value.int IntKind.u8 0, Value.int IntKind.u8 0, Value.int IntKind.u8 0,
  Value.int IntKind.u8 0, Value.int IntKind.u8 0, Value.int IntKind.u8 0,
  Value.int IntKind.u8 0, Value.int IntKind.u8 0, Value.int IntKind.u8 0,
  Value.int IntKind.u8 0, Value.int IntKind.u8 0, Value.int IntKind.u8 0,
  Value.int IntKind.u8 0, Value.int IntKind.u8 0, Value.int IntKind.u8 0,
  Value.int IntKind.u8 0, Value.int IntKind.u8 0, Value.int IntKind.u8 0,
  Value.int IntKind.u8 0, Value.int IntKind.u8 0, Value.int IntKind.u8 0,
  Value.int IntKind.u8 0, Value.int IntKind.u8 0, Value.int IntKind.u8 0,
  Value.int IntKind.u8 0, Value.int IntKind.u8 0, Value.int IntKind.u8 0,
  Value.int IntKind.u8 0, Value.int IntKind.u8 0, Value.int IntKind.u8 0,
  Value.int IntKind.u8 0, Value.int IntKind.u8 0, Value.int IntKind.u8 0,
  Value.int IntKind.u8 0, Value.int IntKind.u8 0, Value.int IntKind.u8 0,
  Value.int IntKind.u8 0, Value.int IntKind.u8 0, Value.int IntKind.u8 0,
  Value.int IntKind.u8 0, Value.int IntKind.u8 0, Value.int IntKind.u8 0,
  Value.int IntKind.u8 0, Value.int IntKind.u8 0, Value.int IntKind.u8 0,
  Value.int IntKind.u8 0, Value.int IntKind.u8 0, Value.int IntKind.u8 0,
  Value.int IntKind.u8 0, Value.int IntKind.u8 0, Value.int IntKind.u8 0]⟩),
  (284, ⟨.array 16 283, 32, 32, [Value.int IntKind.u8 0, Value.int IntKind.u8 0, Value.int IntKind.u8 0, Value.int IntKind.u8 0,
  Value.int IntKind.u8 0, Value.int IntKind.u8 0, Value.int IntKind.u8 0,
  Value.int IntKind.u8 0, Value.int IntKind.u8 0, Value.int IntKind.u8 0,
  Value.int IntKind.u8 0, Value.int IntKind.u8 0, Value.int IntKind.u8 0,
  Value.int IntKind.u8 0, Value.int IntKind.u8 0, Value.int IntKind.u8 0,
  Value.int IntKind.u8 0, Value.int IntKind.u8 0, Value.int IntKind.u8 0,
  Value.int IntKind.u8 0, Value.int IntKind.u8 0, Value.int IntKind.u8 0,
  Value.int IntKind.u8 0, Value.int IntKind.u8 0, Value.int IntKind.u8 0,
  Value.int IntKind.u8 0, Value.int IntKind.u8 0, Value.int IntKind.u8 0,
  Value.int IntKind.u8 0, Value.int IntKind.u8 0, Value.int IntKind.u8 0,
  Value.int IntKind.u8 0]⟩),
  (17, ⟨.ptr 301, 1, 8, [Value.pointer none]⟩),
  (295, ⟨.int IntKind.u8, 1, 1, [Value.int IntKind.u8 0]⟩),
  (186, ⟨.ptr 188, 1, 8, [Value.pointer none]⟩),
  (1, ⟨.other, 1, 8, [Value.nilFunc]⟩),
  (2, ⟨.int IntKind.i64, 1, 8, [Value.int IntKind.i64 0]⟩),
  (6, ⟨.int IntKind.u8, 1, 1, [Value.int IntKind.u8 0]⟩),
  (7, ⟨.struct [(0, 1, false), (1, 1, false), (2, 1, false), (3, 1, false)] (some [2, 3, 4, 6]), 4, 24, [Value.int IntKind.i64 0, Value.int IntKind.i64 0, Value.bool false, Value.int IntKind.u8 0]⟩),
  (12, ⟨.int IntKind.u64, 1, 8, [Value.int IntKind.u64 0]⟩),
  (13, ⟨.struct [(0, 1, false), (1, 1, false)] none, 2, 24, [Value.string { data := #[] }, Value.int IntKind.u64 0]⟩),
  (18, ⟨.struct [(0, 1, false)] none, 1, 8, [Value.pointer none]⟩),
  (20, ⟨.iface, 1, 16, [Value.nilIface]⟩),
  (28, ⟨.struct [(0, 1, false), (1, 1, false), (2, 1, false)] (some [4, 9, 9]), 3, 40, [Value.bool false, Value.string { data := #[] }, Value.string { data := #[] }]⟩),
  (30, ⟨.struct [(0, 1, false), (1, 1, false), (2, 1, false), (3, 1, false), (4, 1, false), (5, 3, true)] none, 8, 160, [Value.slice none 0 0, Value.slice none 0 0, Value.slice none 0 0, Value.slice none 0 0,
  Value.slice none 0 0, Value.bool false, Value.string { data := #[] }, Value.string { data := #[] }]⟩),
  (36, ⟨.struct [(0, 1, false), (1, 1, false), (2, 1, false), (3, 1, false), (4, 1, false)] none, 5, 104, [Value.int IntKind.i64 0, Value.slice none 0 0, Value.slice none 0 0, Value.slice none 0 0,
  Value.slice none 0 0]⟩),
  (39, ⟨.other, 1, 8, [Value.nilFunc]⟩),
  (42, ⟨.other, 1, 8, [Value.nilFunc]⟩),
  (43, ⟨.struct [(0, 3, true), (3, 3, true)] (some [29, 29]), 6, 80, [Value.bool false, Value.string { data := #[] }, Value.string { data := #[] }, Value.bool false,
  Value.string { data := #[] }, Value.string { data := #[] }]⟩),
  (45, ⟨.struct [(0, 6, true), (6, 6, true)] (some [44, 44]), 12, 160, [Value.bool false, Value.string { data := #[] }, Value.string { data := #[] }, Value.bool false,
  Value.string { data := #[] }, Value.string { data := #[] }, Value.bool false,
  Value.string { data := #[] }, Value.string { data := #[] }, Value.bool false,
  Value.string { data := #[] }, Value.string { data := #[] }]⟩),
  (47, ⟨.struct [(0, 1, false), (1, 12, true)] (some [9, 46]), 13, 176, [Value.string { data := #[] }, Value.bool false, Value.string { data := #[] }, Value.string { data := #[] },
  Value.bool false, Value.string { data := #[] }, Value.string { data := #[] }, Value.bool false,
  Value.string { data := #[] }, Value.string { data := #[] }, Value.bool false,
  Value.string { data := #[] }, Value.string { data := #[] }]⟩),
  (49, ⟨.other, 1, 8, [Value.nilFunc]⟩),
  (50, ⟨.other, 1, 8, [Value.nilFunc]⟩),
  (51, ⟨.other, 1, 8, [Value.nilFunc]⟩),
  (52, ⟨.other, 1, 8, [Value.nilFunc]⟩),
  (53, ⟨.other, 1, 8, [Value.nilFunc]⟩),
  (54, ⟨.other, 1, 8, [Value.nilFunc]⟩),
  (55, ⟨.other, 1, 8, [Value.nilFunc]⟩),
  (57, ⟨.other, 1, 8, [Value.nilFunc]⟩),
  (59, ⟨.other, 1, 8, [Value.nilFunc]⟩),
  (61, ⟨.other, 1, 8, [Value.nilFunc]⟩),
  (62, ⟨.other, 1, 8, [Value.nilFunc]⟩),
  (63, ⟨.struct [(0, 1, false), (1, 3, true)] (some [4, 29]), 4, 48, [Value.bool false, Value.bool false, Value.string { data := #[] }, Value.string { data := #[] }]⟩),
  (65, ⟨.struct [(0, 6, true), (6, 4, true)] (some [44, 64]), 10, 128, [Value.bool false, Value.string { data := #[] }, Value.string { data := #[] }, Value.bool false,
  Value.string { data := #[] }, Value.string { data := #[] }, Value.bool false, Value.bool false,
  Value.string { data := #[] }, Value.string { data := #[] }]⟩),
  (67, ⟨.struct [(0, 1, false), (1, 10, true), (11, 3, true)] (some [9, 66, 29]), 14, 184, [Value.string { data := #[] }, Value.bool false, Value.string { data := #[] }, Value.string { data := #[] },
  Value.bool false, Value.string { data := #[] }, Value.string { data := #[] }, Value.bool false,
  Value.bool false, Value.string { data := #[] }, Value.string { data := #[] }, Value.bool false,
  Value.string { data := #[] }, Value.string { data := #[] }]⟩),
  (69, ⟨.other, 1, 8, [Value.nilFunc]⟩),
  (70, ⟨.other, 1, 8, [Value.nilFunc]⟩),
  (71, ⟨.other, 1, 8, [Value.nilFunc]⟩),
  (73, ⟨.other, 1, 8, [Value.nilFunc]⟩),
  (75, ⟨.struct [(0, 1, false), (1, 1, false), (2, 1, false), (3, 1, false)] none, 4, 64, [Value.slice none 0 0, Value.slice none 0 0, Value.bool false, Value.int IntKind.i64 0]⟩),
  (78, ⟨.struct [(0, 1, false), (1, 10, true), (11, 1, false)] none, 12, 168, [Value.string { data := #[] }, Value.bool false, Value.string { data := #[] }, Value.string { data := #[] },
  Value.bool false, Value.string { data := #[] }, Value.string { data := #[] }, Value.bool false,
  Value.bool false, Value.string { data := #[] }, Value.string { data := #[] }, Value.slice none 0 0]⟩),
  (80, ⟨.other, 1, 8, [Value.nilFunc]⟩),
  (81, ⟨.struct [(0, 3, true), (3, 3, true), (6, 3, true), (9, 3, true), (12, 3, true), (15, 1, false)] none, 16, 224, [Value.bool false, Value.string { data := #[] }, Value.string { data := #[] }, Value.bool false,
  Value.string { data := #[] }, Value.string { data := #[] }, Value.bool false,
  Value.string { data := #[] }, Value.string { data := #[] }, Value.bool false,
  Value.string { data := #[] }, Value.string { data := #[] }, Value.bool false,
  Value.string { data := #[] }, Value.string { data := #[] }, Value.slice none 0 0]⟩),
  (84, ⟨.other, 1, 8, [Value.nilFunc]⟩),
  (85, ⟨.other, 1, 8, [Value.nilFunc]⟩),
  (86, ⟨.other, 1, 8, [Value.nilFunc]⟩),
  (88, ⟨.other, 1, 8, [Value.nilFunc]⟩),
  (89, ⟨.other, 1, 8, [Value.nilFunc]⟩),
  (90, ⟨.other, 1, 8, [Value.nilFunc]⟩),
  (91, ⟨.other, 1, 8, [Value.nilFunc]⟩),
  (92, ⟨.other, 1, 8, [Value.nilFunc]⟩),
  (93, ⟨.other, 1, 8, [Value.nilFunc]⟩),
  (95, ⟨.other, 1, 8, [Value.nilFunc]⟩),
  (96, ⟨.other, 1, 8, [Value.nilFunc]⟩),
  (97, ⟨.other, 1, 8, [Value.nilFunc]⟩),
  (98, ⟨.struct [(0, 1, false), (1, 1, false), (2, 10, true)] none, 12, 168, [Value.string { data := #[] }, Value.slice none 0 0, Value.bool false, Value.string { data := #[] },
  Value.string { data := #[] }, Value.bool false, Value.string { data := #[] },
  Value.string { data := #[] }, Value.bool false, Value.bool false, Value.string { data := #[] },
  Value.string { data := #[] }]⟩),
  (100, ⟨.other, 1, 8, [Value.nilFunc]⟩),
  (101, ⟨.other, 1, 8, [Value.nilFunc]⟩),
  (102, ⟨.other, 1, 8, [Value.nilFunc]⟩),
  (103, ⟨.other, 1, 8, [Value.nilFunc]⟩),
  (104, ⟨.other, 1, 8, [Value.nilFunc]⟩),
  (105, ⟨.other, 1, 8, [Value.nilFunc]⟩),
  (106, ⟨.other, 1, 8, [Value.nilFunc]⟩),
  (107, ⟨.other, 1, 8, [Value.nilFunc]⟩),
  (108, ⟨.other, 1, 8, [Value.nilFunc]⟩),
  (109, ⟨.other, 1, 8, [Value.nilFunc]⟩),
  (110, ⟨.other, 1, 8, [Value.nilFunc]⟩),
  (111, ⟨.other, 1, 8, [Value.nilFunc]⟩),
  (113, ⟨.other, 1, 8, [Value.nilFunc]⟩),
  (114, ⟨.other, 1, 8, [Value.nilFunc]⟩),
  (115, ⟨.other, 1, 8, [Value.nilFunc]⟩),
  (116, ⟨.other, 1, 8, [Value.nilFunc]⟩),
  (117, ⟨.struct [(0, 1, false), (1, 1, false)] (some [3, 3]), 2, 16, [Value.int IntKind.i64 0, Value.int IntKind.i64 0]⟩),
  (119, ⟨.other, 1, 8, [Value.nilFunc]⟩),
  (120, ⟨.other, 1, 8, [Value.nilFunc]⟩),
  (121, ⟨.other, 1, 8, [Value.nilFunc]⟩),
  (122, ⟨.other, 1, 8, [Value.nilFunc]⟩),
  (123, ⟨.other, 1, 8, [Value.nilFunc]⟩),
  (124, ⟨.other, 1, 8, [Value.nilFunc]⟩),
  (125, ⟨.other, 1, 8, [Value.nilFunc]⟩),
  (126, ⟨.other, 1, 8, [Value.nilFunc]⟩),
  (127, ⟨.other, 1, 8, [Value.nilFunc]⟩),
  (129, ⟨.other, 1, 8, [Value.nilFunc]⟩),
  (130, ⟨.other, 1, 8, [Value.nilFunc]⟩),
  (131, ⟨.other, 1, 8, [Value.nilFunc]⟩),
  (132, ⟨.other, 1, 8, [Value.nilFunc]⟩),
  (133, ⟨.other, 1, 8, [Value.nilFunc]⟩),
  (134, ⟨.other, 1, 8, [Value.nilFunc]⟩),
  (135, ⟨.other, 1, 8, [Value.nilFunc]⟩),
  (136, ⟨.other, 1, 8, [Value.nilFunc]⟩),
  (137, ⟨.other, 1, 8, [Value.nilFunc]⟩),
  (138, ⟨.other, 1, 8, [Value.nilFunc]⟩),
  (139, ⟨.other, 1, 8, [Value.nilFunc]⟩),
  (140, ⟨.other, 1, 8, [Value.nilFunc]⟩),
  (141, ⟨.other, 1, 8, [Value.nilFunc]⟩),
  (142, ⟨.other, 1, 8, [Value.nilFunc]⟩),
  (143, ⟨.ptr 145, 1, 8, [Value.pointer none]⟩),
  (144, ⟨.struct [(0, 1, false)] none, 1, 24, [Value.slice none 0 0]⟩),
  (146, ⟨.other, 1, 8, [Value.nilFunc]⟩),
  (147, ⟨.other, 1, 8, [Value.nilFunc]⟩),
  (148, ⟨.other, 1, 8, [Value.nilFunc]⟩),
  (149, ⟨.other, 1, 8, [Value.nilFunc]⟩),
  (150, ⟨.other, 1, 8, [Value.nilFunc]⟩),
  (152, ⟨.other, 1, 8, [Value.nilFunc]⟩),
  (153, ⟨.other, 1, 8, [Value.nilFunc]⟩),
  (154, ⟨.other, 1, 8, [Value.nilFunc]⟩),
  (155, ⟨.other, 1, 8, [Value.nilFunc]⟩),
  (156, ⟨.map 3 4, 1, 8, [Value.map none]⟩),
  (157, ⟨.other, 1, 8, [Value.nilFunc]⟩),
  (158, ⟨.other, 1, 8, [Value.nilFunc]⟩),
  (159, ⟨.other, 1, 8, [Value.nilFunc]⟩),
  (160, ⟨.other, 1, 8, [Value.nilFunc]⟩),
  (161, ⟨.other, 1, 8, [Value.nilFunc]⟩),
  (162, ⟨.other, 1, 8, [Value.nilFunc]⟩),
  (164, ⟨.other, 1, 8, [Value.nilFunc]⟩),
  (165, ⟨.other, 1, 8, [Value.nilFunc]⟩),
  (166, ⟨.other, 1, 8, [Value.nilFunc]⟩),
  (167, ⟨.other, 1, 8, [Value.nilFunc]⟩),
  (168, ⟨.other, 1, 8, [Value.nilFunc]⟩),
  (169, ⟨.other, 1, 8, [Value.nilFunc]⟩),
  (170, ⟨.other, 1, 8, [Value.nilFunc]⟩),
  (172, ⟨.other, 1, 8, [Value.nilFunc]⟩),
  (173, ⟨.other, 1, 8, [Value.nilFunc]⟩),
  (174, ⟨.other, 1, 8, [Value.nilFunc]⟩),
  (175, ⟨.other, 1, 8, [Value.nilFunc]⟩),
  (177, ⟨.other, 1, 8, [Value.nilFunc]⟩),
  (178, ⟨.other, 1, 8, [Value.nilFunc]⟩),
  (179, ⟨.other, 1, 8, [Value.nilFunc]⟩),
  (180, ⟨.other, 1, 8, [Value.nilFunc]⟩),
  (181, ⟨.other, 1, 8, [Value.nilFunc]⟩),
  (182, ⟨.other, 1, 8, [Value.nilFunc]⟩),
  (183, ⟨.other, 1, 8, [Value.nilFunc]⟩),
  (184, ⟨.other, 1, 8, [Value.nilFunc]⟩),
  (185, ⟨.other, 1, 8, [Value.nilFunc]⟩),
  (187, ⟨.struct [(0, 1, false)] none, 1, 24, [Value.slice none 0 0]⟩),
  (189, ⟨.other, 1, 8, [Value.nilFunc]⟩),
  (190, ⟨.other, 1, 8, [Value.nilFunc]⟩),
  (191, ⟨.other, 1, 8, [Value.nilFunc]⟩),
  (192, ⟨.other, 1, 8, [Value.nilFunc]⟩),
  (193, ⟨.other, 1, 8, [Value.nilFunc]⟩),
  (194, ⟨.map 9 4, 1, 8, [Value.map none]⟩),
  (196, ⟨.other, 1, 8, [Value.nilFunc]⟩),
  (197, ⟨.other, 1, 8, [Value.nilFunc]⟩),
  (198, ⟨.other, 1, 8, [Value.nilFunc]⟩),
  (199, ⟨.other, 1, 8, [Value.nilFunc]⟩),
  (200, ⟨.other, 1, 8, [Value.nilFunc]⟩),
  (201, ⟨.other, 1, 8, [Value.nilFunc]⟩),
  (202, ⟨.other, 1, 8, [Value.nilFunc]⟩),
  (203, ⟨.other, 1, 8, [Value.nilFunc]⟩),
  (205, ⟨.other, 1, 8, [Value.nilFunc]⟩),
  (207, ⟨.other, 1, 8, [Value.nilFunc]⟩),
  (209, ⟨.other, 1, 8, [Value.nilFunc]⟩),
  (210, ⟨.other, 1, 8, [Value.nilFunc]⟩),
  (211, ⟨.other, 1, 8, [Value.nilFunc]⟩),
  (212, ⟨.other, 1, 8, [Value.nilFunc]⟩),
  (214, ⟨.other, 1, 8, [Value.nilFunc]⟩),
  (216, ⟨.int IntKind.u64, 1, 8, [Value.int IntKind.u64 0]⟩),
  (217, ⟨.other, 1, 8, [Value.nilFunc]⟩),
  (218, ⟨.other, 1, 8, [Value.nilFunc]⟩),
  (219, ⟨.other, 1, 8, [Value.nilFunc]⟩),
  (220, ⟨.other, 1, 8, [Value.nilFunc]⟩),
  (221, ⟨.other, 1, 8, [Value.nilFunc]⟩),
  (222, ⟨.other, 1, 8, [Value.nilFunc]⟩),
  (223, ⟨.other, 1, 8, [Value.nilFunc]⟩),
  (224, ⟨.other, 1, 8, [Value.nilFunc]⟩),
  (225, ⟨.other, 1, 8, [Value.nilFunc]⟩),
  (226, ⟨.other, 1, 8, [Value.nilFunc]⟩),
  (227, ⟨.other, 1, 8, [Value.nilFunc]⟩),
  (228, ⟨.other, 1, 8, [Value.nilFunc]⟩),
  (229, ⟨.other, 1, 8, [Value.nilFunc]⟩),
  (230, ⟨.other, 1, 8, [Value.nilFunc]⟩),
  (231, ⟨.other, 1, 8, [Value.nilFunc]⟩),
  (232, ⟨.other, 1, 8, [Value.nilFunc]⟩),
  (233, ⟨.other, 1, 8, [Value.nilFunc]⟩),
  (234, ⟨.other, 1, 8, [Value.nilFunc]⟩),
  (235, ⟨.other, 1, 8, [Value.nilFunc]⟩),
  (236, ⟨.other, 1, 8, [Value.nilFunc]⟩),
  (237, ⟨.other, 1, 8, [Value.nilFunc]⟩),
  (238, ⟨.other, 1, 8, [Value.nilFunc]⟩),
  (239, ⟨.other, 1, 8, [Value.nilFunc]⟩),
  (240, ⟨.other, 1, 8, [Value.nilFunc]⟩),
  (242, ⟨.other, 1, 8, [Value.nilFunc]⟩),
  (243, ⟨.other, 1, 8, [Value.nilFunc]⟩),
  (244, ⟨.other, 1, 8, [Value.nilFunc]⟩),
  (245, ⟨.other, 1, 8, [Value.nilFunc]⟩),
  (247, ⟨.other, 1, 8, [Value.nilFunc]⟩),
  (249, ⟨.other, 1, 8, [Value.nilFunc]⟩),
  (251, ⟨.other, 1, 8, [Value.nilFunc]⟩),
  (252, ⟨.other, 1, 8, [Value.nilFunc]⟩),
  (256, ⟨.other, 1, 8, [Value.nilFunc]⟩),
  (257, ⟨.other, 1, 8, [Value.nilFunc]⟩),
  (258, ⟨.ptr 254, 1, 8, [Value.pointer none]⟩),
  (259, ⟨.other, 1, 8, [Value.nilFunc]⟩),
  (261, ⟨.other, 1, 8, [Value.nilFunc]⟩),
  (262, ⟨.other, 1, 8, [Value.nilFunc]⟩),
  (263, ⟨.other, 1, 8, [Value.nilFunc]⟩),
  (264, ⟨.other, 1, 8, [Value.nilFunc]⟩),
  (265, ⟨.other, 1, 8, [Value.nilFunc]⟩),
  (266, ⟨.other, 1, 8, [Value.nilFunc]⟩),
  (267, ⟨.other, 1, 8, [Value.nilFunc]⟩),
  (268, ⟨.other, 1, 8, [Value.nilFunc]⟩),
  (269, ⟨.other, 1, 8, [Value.nilFunc]⟩),
  (271, ⟨.other, 1, 8, [Value.nilFunc]⟩),
  (272, ⟨.other, 1, 8, [Value.nilFunc]⟩),
  (273, ⟨.other, 1, 8, [Value.nilFunc]⟩),
  (274, ⟨.other, 1, 8, [Value.nilFunc]⟩),
  (275, ⟨.other, 1, 8, [Value.nilFunc]⟩),
  (277, ⟨.other, 1, 8, [Value.nilFunc]⟩),
  (278, ⟨.other, 1, 8, [Value.nilFunc]⟩),
  (279, ⟨.other, 1, 8, [Value.nilFunc]⟩),
  (282, ⟨.struct [(0, 1, false), (1, 1, false)] (some [5, 5]), 2, 2, [Value.int IntKind.u8 0, Value.int IntKind.u8 0]⟩),
  (285, ⟨.other, 1, 8, [Value.nilFunc]⟩),
  (286, ⟨.other, 1, 8, [Value.nilFunc]⟩),
  (287, ⟨.other, 1, 8, [Value.nilFunc]⟩),
  (288, ⟨.struct [(0, 1, false), (1, 1, false), (2, 1, false), (3, 1, false)] none, 4, 40, [Value.pointer none, Value.pointer none, Value.pointer none, Value.string { data := #[] }]⟩),
  (289, ⟨.struct [(0, 1, false), (1, 1, false), (2, 1, false), (3, 1, false)] none, 4, 40, [Value.pointer none, Value.pointer none, Value.pointer none, Value.string { data := #[] }]⟩),
  (290, ⟨.array 0 16, 0, 0, []⟩),
  (291, ⟨.struct [(0, 0, true)] none, 0, 0, []⟩),
  (292, ⟨.struct [(0, 0, true)] none, 0, 0, []⟩),
  (293, ⟨.other, 1, 8, [Value.nilFunc]⟩),
  (294, ⟨.int IntKind.u8, 1, 1, [Value.int IntKind.u8 0]⟩),
  (296, ⟨.other, 1, 8, [Value.nilFunc]⟩),
  (297, ⟨.ptr 5, 1, 8, [Value.pointer none]⟩),
  (298, ⟨.int IntKind.i32, 1, 4, [Value.int IntKind.i32 0]⟩),
  (299, ⟨.int IntKind.i32, 1, 4, [Value.int IntKind.i32 0]⟩),
  (300, ⟨.struct [(0, 1, false), (1, 1, false), (2, 1, false), (3, 1, false), (4, 1, false), (5, 1, false), (6, 1, false), (7, 1, false), (8, 1, false), (9, 1, false), (10, 1, false)] none, 11, 48, [Value.int IntKind.u64 0, Value.int IntKind.u64 0, Value.int IntKind.u32 0,
  Value.int IntKind.u8 0, Value.int IntKind.u8 0, Value.int IntKind.u8 0,
  Value.int IntKind.u8 0, Value.nilFunc, Value.pointer none, Value.int IntKind.i32 0,
  Value.int IntKind.i32 0]⟩),
  (301, ⟨.struct [(0, 1, false), (1, 1, false), (2, 1, false), (3, 1, false), (4, 1, false), (5, 1, false), (6, 1, false), (7, 1, false), (8, 1, false), (9, 1, false), (10, 1, false)] none, 11, 48, [Value.int IntKind.u64 0, Value.int IntKind.u64 0, Value.int IntKind.u32 0,
  Value.int IntKind.u8 0, Value.int IntKind.u8 0, Value.int IntKind.u8 0,
  Value.int IntKind.u8 0, Value.nilFunc, Value.pointer none, Value.int IntKind.i32 0,
  Value.int IntKind.i32 0]⟩),
  (302, ⟨.other, 1, 8, [Value.pointer none]⟩)]
theorem tabOK : AE.TabOK Tryz.prog Tab :=
  AE.TabOK.cons ty3 <|
  AE.TabOK.cons ty29 <|
  AE.TabOK.cons ty37 <|
  AE.TabOK.cons ty31 <|
  AE.TabOK.cons ty44 <|
  AE.TabOK.cons ty9 <|
  AE.TabOK.cons ty76 <|
  AE.TabOK.cons ty4 <|
  AE.TabOK.cons ty74 <|
  AE.TabOK.cons ty66 <|
  AE.TabOK.cons ty72 <|
  AE.TabOK.cons ty32 <|
  AE.TabOK.cons ty40 <|
  AE.TabOK.cons ty64 <|
  AE.TabOK.cons ty215 <|
  AE.TabOK.cons ty34 <|
  AE.TabOK.cons ty79 <|
  AE.TabOK.cons ty5 <|
  AE.TabOK.cons ty23 <|
  AE.TabOK.cons ty213 <|
  AE.TabOK.cons ty33 <|
  AE.TabOK.cons ty82 <|
  AE.TabOK.cons ty25 <|
  AE.TabOK.cons ty77 <|
  AE.TabOK.cons ty35 <|
  AE.TabOK.cons ty260 <|
  AE.TabOK.cons ty83 <|
  AE.TabOK.cons ty26 <|
  AE.TabOK.cons ty21 <|
  AE.TabOK.cons ty27 <|
  AE.TabOK.cons ty46 <|
  AE.TabOK.cons ty68 <|
  AE.TabOK.cons ty99 <|
  AE.TabOK.cons ty48 <|
  AE.TabOK.cons ty22 <|
  AE.TabOK.cons ty24 <|
  AE.TabOK.cons ty176 <|
  AE.TabOK.cons ty118 <|
  AE.TabOK.cons ty87 <|
  AE.TabOK.cons ty283 <|
  AE.TabOK.cons ty145 <|
  AE.TabOK.cons ty188 <|
  AE.TabOK.cons ty195 <|
  AE.TabOK.cons ty8 <|
  AE.TabOK.cons ty10 <|
  AE.TabOK.cons ty11 <|
  AE.TabOK.cons ty14 <|
  AE.TabOK.cons ty15 <|
  AE.TabOK.cons ty16 <|
  AE.TabOK.cons ty19 <|
  AE.TabOK.cons ty112 <|
  AE.TabOK.cons ty204 <|
  AE.TabOK.cons ty248 <|
  AE.TabOK.cons ty280 <|
  AE.TabOK.cons ty284 <|
  AE.TabOK.cons ty17 <|
  AE.TabOK.cons ty295 <|
  AE.TabOK.cons ty186 <|
  AE.TabOK.cons ty1 <|
  AE.TabOK.cons ty2 <|
  AE.TabOK.cons ty6 <|
  AE.TabOK.cons ty7 <|
  AE.TabOK.cons ty12 <|
  AE.TabOK.cons ty13 <|
  AE.TabOK.cons ty18 <|
  AE.TabOK.cons ty20 <|
  AE.TabOK.cons ty28 <|
  AE.TabOK.cons ty30 <|
  AE.TabOK.cons ty36 <|
  AE.TabOK.cons ty39 <|
  AE.TabOK.cons ty42 <|
  AE.TabOK.cons ty43 <|
  AE.TabOK.cons ty45 <|
  AE.TabOK.cons ty47 <|
  AE.TabOK.cons ty49 <|
  AE.TabOK.cons ty50 <|
  AE.TabOK.cons ty51 <|
  AE.TabOK.cons ty52 <|
  AE.TabOK.cons ty53 <|
  AE.TabOK.cons ty54 <|
  AE.TabOK.cons ty55 <|
  AE.TabOK.cons ty57 <|
  AE.TabOK.cons ty59 <|
  AE.TabOK.cons ty61 <|
  AE.TabOK.cons ty62 <|
  AE.TabOK.cons ty63 <|
  AE.TabOK.cons ty65 <|
  AE.TabOK.cons ty67 <|
  AE.TabOK.cons ty69 <|
  AE.TabOK.cons ty70 <|
  AE.TabOK.cons ty71 <|
  AE.TabOK.cons ty73 <|
  AE.TabOK.cons ty75 <|
  AE.TabOK.cons ty78 <|
  AE.TabOK.cons ty80 <|
  AE.TabOK.cons ty81 <|
  AE.TabOK.cons ty84 <|
  AE.TabOK.cons ty85 <|
  AE.TabOK.cons ty86 <|
  AE.TabOK.cons ty88 <|
  AE.TabOK.cons ty89 <|
  AE.TabOK.cons ty90 <|
  AE.TabOK.cons ty91 <|
  AE.TabOK.cons ty92 <|
  AE.TabOK.cons ty93 <|
  AE.TabOK.cons ty95 <|
  AE.TabOK.cons ty96 <|
  AE.TabOK.cons ty97 <|
  AE.TabOK.cons ty98 <|
  AE.TabOK.cons ty100 <|
  AE.TabOK.cons ty101 <|
  AE.TabOK.cons ty102 <|
  AE.TabOK.cons ty103 <|
  AE.TabOK.cons ty104 <|
  AE.TabOK.cons ty105 <|
  AE.TabOK.cons ty106 <|
  AE.TabOK.cons ty107 <|
  AE.TabOK.cons ty108 <|
  AE.TabOK.cons ty109 <|
  AE.TabOK.cons ty110 <|
  AE.TabOK.cons ty111 <|
  AE.TabOK.cons ty113 <|
  AE.TabOK.cons ty114 <|
  AE.TabOK.cons ty115 <|
  AE.TabOK.cons ty116 <|
  AE.TabOK.cons ty117 <|
  AE.TabOK.cons ty119 <|
  AE.TabOK.cons ty120 <|
  AE.TabOK.cons ty121 <|
  AE.TabOK.cons ty122 <|
  AE.TabOK.cons ty123 <|
  AE.TabOK.cons ty124 <|
  AE.TabOK.cons ty125 <|
  AE.TabOK.cons ty126 <|
  AE.TabOK.cons ty127 <|
  AE.TabOK.cons ty129 <|
  AE.TabOK.cons ty130 <|
  AE.TabOK.cons ty131 <|
  AE.TabOK.cons ty132 <|
  AE.TabOK.cons ty133 <|
  AE.TabOK.cons ty134 <|
  AE.TabOK.cons ty135 <|
  AE.TabOK.cons ty136 <|
  AE.TabOK.cons ty137 <|
  AE.TabOK.cons ty138 <|
  AE.TabOK.cons ty139 <|
  AE.TabOK.cons ty140 <|
  AE.TabOK.cons ty141 <|
  AE.TabOK.cons ty142 <|
  AE.TabOK.cons ty143 <|
  AE.TabOK.cons ty144 <|
  AE.TabOK.cons ty146 <|
  AE.TabOK.cons ty147 <|
  AE.TabOK.cons ty148 <|
  AE.TabOK.cons ty149 <|
  AE.TabOK.cons ty150 <|
  AE.TabOK.cons ty152 <|
  AE.TabOK.cons ty153 <|
  AE.TabOK.cons ty154 <|
  AE.TabOK.cons ty155 <|
  AE.TabOK.cons ty156 <|
  AE.TabOK.cons ty157 <|
  AE.TabOK.cons ty158 <|
  AE.TabOK.cons ty159 <|
  AE.TabOK.cons ty160 <|
  AE.TabOK.cons ty161 <|
  AE.TabOK.cons ty162 <|
  AE.TabOK.cons ty164 <|
  AE.TabOK.cons ty165 <|
  AE.TabOK.cons ty166 <|
  AE.TabOK.cons ty167 <|
  AE.TabOK.cons ty168 <|
  AE.TabOK.cons ty169 <|
  AE.TabOK.cons ty170 <|
  AE.TabOK.cons ty172 <|
  AE.TabOK.cons ty173 <|
  AE.TabOK.cons ty174 <|
  AE.TabOK.cons ty175 <|
  AE.TabOK.cons ty177 <|
  AE.TabOK.cons ty178 <|
  AE.TabOK.cons ty179 <|
  AE.TabOK.cons ty180 <|
  AE.TabOK.cons ty181 <|
  AE.TabOK.cons ty182 <|
  AE.TabOK.cons ty183 <|
  AE.TabOK.cons ty184 <|
  AE.TabOK.cons ty185 <|
  AE.TabOK.cons ty187 <|
  AE.TabOK.cons ty189 <|
  AE.TabOK.cons ty190 <|
  AE.TabOK.cons ty191 <|
  AE.TabOK.cons ty192 <|
  AE.TabOK.cons ty193 <|
  AE.TabOK.cons ty194 <|
  AE.TabOK.cons ty196 <|
  AE.TabOK.cons ty197 <|
  AE.TabOK.cons ty198 <|
  AE.TabOK.cons ty199 <|
  AE.TabOK.cons ty200 <|
  AE.TabOK.cons ty201 <|
  AE.TabOK.cons ty202 <|
  AE.TabOK.cons ty203 <|
  AE.TabOK.cons ty205 <|
  AE.TabOK.cons ty207 <|
  AE.TabOK.cons ty209 <|
  AE.TabOK.cons ty210 <|
  AE.TabOK.cons ty211 <|
  AE.TabOK.cons ty212 <|
  AE.TabOK.cons ty214 <|
  AE.TabOK.cons ty216 <|
  AE.TabOK.cons ty217 <|
  AE.TabOK.cons ty218 <|
  AE.TabOK.cons ty219 <|
  AE.TabOK.cons ty220 <|
  AE.TabOK.cons ty221 <|
  AE.TabOK.cons ty222 <|
  AE.TabOK.cons ty223 <|
  AE.TabOK.cons ty224 <|
  AE.TabOK.cons ty225 <|
  AE.TabOK.cons ty226 <|
  AE.TabOK.cons ty227 <|
  AE.TabOK.cons ty228 <|
  AE.TabOK.cons ty229 <|
  AE.TabOK.cons ty230 <|
  AE.TabOK.cons ty231 <|
  AE.TabOK.cons ty232 <|
  AE.TabOK.cons ty233 <|
  AE.TabOK.cons ty234 <|
  AE.TabOK.cons ty235 <|
  AE.TabOK.cons ty236 <|
  AE.TabOK.cons ty237 <|
  AE.TabOK.cons ty238 <|
  AE.TabOK.cons ty239 <|
  AE.TabOK.cons ty240 <|
  AE.TabOK.cons ty242 <|
  AE.TabOK.cons ty243 <|
  AE.TabOK.cons ty244 <|
  AE.TabOK.cons ty245 <|
  AE.TabOK.cons ty247 <|
  AE.TabOK.cons ty249 <|
  AE.TabOK.cons ty251 <|
  AE.TabOK.cons ty252 <|
  AE.TabOK.cons ty256 <|
  AE.TabOK.cons ty257 <|
  AE.TabOK.cons ty258 <|
  AE.TabOK.cons ty259 <|
  AE.TabOK.cons ty261 <|
  AE.TabOK.cons ty262 <|
  AE.TabOK.cons ty263 <|
  AE.TabOK.cons ty264 <|
  AE.TabOK.cons ty265 <|
  AE.TabOK.cons ty266 <|
  AE.TabOK.cons ty267 <|
  AE.TabOK.cons ty268 <|
  AE.TabOK.cons ty269 <|
  AE.TabOK.cons ty271 <|
  AE.TabOK.cons ty272 <|
  AE.TabOK.cons ty273 <|
  AE.TabOK.cons ty274 <|
  AE.TabOK.cons ty275 <|
  AE.TabOK.cons ty277 <|
  AE.TabOK.cons ty278 <|
  AE.TabOK.cons ty279 <|
  AE.TabOK.cons ty282 <|
  AE.TabOK.cons ty285 <|
  AE.TabOK.cons ty286 <|
  AE.TabOK.cons ty287 <|
  AE.TabOK.cons ty288 <|
  AE.TabOK.cons ty289 <|
  AE.TabOK.cons ty290 <|
  AE.TabOK.cons ty291 <|
  AE.TabOK.cons ty292 <|
  AE.TabOK.cons ty293 <|
  AE.TabOK.cons ty294 <|
  AE.TabOK.cons ty296 <|
  AE.TabOK.cons ty297 <|
  AE.TabOK.cons ty298 <|
  AE.TabOK.cons ty299 <|
  AE.TabOK.cons ty300 <|
  AE.TabOK.cons ty301 <|
  AE.TabOK.cons ty302 <|
  AE.TabOK.nil
end Go.Proofs.YthadehkggddgoaaGreatDoor
