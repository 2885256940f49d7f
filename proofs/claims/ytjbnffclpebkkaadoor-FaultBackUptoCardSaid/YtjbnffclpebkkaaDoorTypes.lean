/- The table of types of this seat's program: written by tools/gentab.sh. -/
import Derived.Test.YtjbnffclpebkkaaDoorRows
import Derived.Test.YtjbnffclpebkkaaDoorAE11
set_option linter.unusedVariables false
set_option maxRecDepth 20000
namespace Go.Proofs.YtjbnffclpebkkaaDoor
open Go
theorem ty1 : AE.TypeOK Go.Proofs.Tryd.prog 1 ⟨.other, 1, 8, [Go.Value.nilFunc]⟩ := AE.TypeOK.of (Go.Proofs.Tryd.isAgg1) Go.Proofs.Tryd.type1 rfl rfl rfl rfl rfl rfl (fun h => rfl)
theorem ty2 : AE.TypeOK Go.Proofs.Tryd.prog 2 ⟨.int Go.IntKind.i64, 1, 8, [Go.Value.int Go.IntKind.i64 0]⟩ := AE.TypeOK.of (Go.Proofs.Tryd.underlying2) Go.Proofs.Tryd.type2 rfl rfl rfl rfl rfl rfl (fun h => rfl)
theorem ty3 : AE.TypeOK Go.Proofs.Tryd.prog 3 ⟨.int Go.IntKind.i64, 1, 8, [Go.Value.int Go.IntKind.i64 0]⟩ := AE.TypeOK.of (Go.Proofs.Tryd.underlying3) Go.Proofs.Tryd.type3 rfl rfl rfl rfl rfl rfl (fun h => rfl)
theorem ty4 : AE.TypeOK Go.Proofs.Tryd.prog 4 ⟨.bool, 1, 1, [Go.Value.bool false]⟩ := AE.TypeOK.of (Go.Proofs.Tryd.underlying4) Go.Proofs.Tryd.type4 rfl rfl rfl rfl rfl rfl (fun h => rfl)
theorem ty5 : AE.TypeOK Go.Proofs.Tryd.prog 5 ⟨.int Go.IntKind.u8, 1, 1, [Go.Value.int Go.IntKind.u8 0]⟩ := AE.TypeOK.of (Go.Proofs.Tryd.underlying5) Go.Proofs.Tryd.type5 rfl rfl rfl rfl rfl rfl (fun h => rfl)
theorem ty6 : AE.TypeOK Go.Proofs.Tryd.prog 6 ⟨.int Go.IntKind.u8, 1, 1, [Go.Value.int Go.IntKind.u8 0]⟩ := AE.TypeOK.of (Go.Proofs.Tryd.underlying6) Go.Proofs.Tryd.type6 rfl rfl rfl rfl rfl rfl (fun h => rfl)
theorem ty7 : AE.TypeOK Go.Proofs.Tryd.prog 7 ⟨.struct [(0, 1, false), (1, 1, false), (2, 1, false), (3, 1, false)] (some [2, 3, 4, 6]), 4, 24, [Go.Value.int Go.IntKind.i64 0, Go.Value.int Go.IntKind.i64 0, Go.Value.bool false, Go.Value.int Go.IntKind.u8 0]⟩ := AE.TypeOK.of (AE.KindOK.structEq Go.Proofs.Tryd.underlying7 ⟨⟨rfl, AE.size_of Go.Proofs.Tryd.type2 rfl, Go.Proofs.Tryd.isAgg2, fun _ => rfl⟩, ⟨rfl, AE.size_of Go.Proofs.Tryd.type3 rfl, Go.Proofs.Tryd.isAgg3, fun _ => rfl⟩, ⟨rfl, AE.size_of Go.Proofs.Tryd.type4 rfl, Go.Proofs.Tryd.isAgg4, fun _ => rfl⟩, ⟨rfl, AE.size_of Go.Proofs.Tryd.type6 rfl, Go.Proofs.Tryd.isAgg6, fun _ => rfl⟩, trivial⟩ (by kernel_rfl) (by kernel_rfl) ⟨⟨rfl, by decide⟩, ⟨rfl, by decide⟩, ⟨rfl, by decide⟩, ⟨rfl, by decide⟩, trivial⟩) Go.Proofs.Tryd.type7 rfl rfl rfl rfl rfl rfl (fun h => by cases h)
theorem ty8 : AE.TypeOK Go.Proofs.Tryd.prog 8 ⟨.struct [(0, 1, false), (1, 1, false), (2, 1, false), (3, 1, false)] (some [2, 3, 4, 6]), 4, 24, [Go.Value.int Go.IntKind.i64 0, Go.Value.int Go.IntKind.i64 0, Go.Value.bool false, Go.Value.int Go.IntKind.u8 0]⟩ := AE.TypeOK.of (AE.KindOK.structEq Go.Proofs.Tryd.underlying8 ⟨⟨rfl, AE.size_of Go.Proofs.Tryd.type2 rfl, Go.Proofs.Tryd.isAgg2, fun _ => rfl⟩, ⟨rfl, AE.size_of Go.Proofs.Tryd.type3 rfl, Go.Proofs.Tryd.isAgg3, fun _ => rfl⟩, ⟨rfl, AE.size_of Go.Proofs.Tryd.type4 rfl, Go.Proofs.Tryd.isAgg4, fun _ => rfl⟩, ⟨rfl, AE.size_of Go.Proofs.Tryd.type6 rfl, Go.Proofs.Tryd.isAgg6, fun _ => rfl⟩, trivial⟩ (by kernel_rfl) (by kernel_rfl) ⟨⟨rfl, by decide⟩, ⟨rfl, by decide⟩, ⟨rfl, by decide⟩, ⟨rfl, by decide⟩, trivial⟩) Go.Proofs.Tryd.type8 rfl rfl rfl rfl rfl rfl (fun h => by cases h)
theorem ty9 : AE.TypeOK Go.Proofs.Tryd.prog 9 ⟨.str, 1, 16, [Go.Value.string { data := #[] }]⟩ := AE.TypeOK.of (Go.Proofs.Tryd.underlying9) Go.Proofs.Tryd.type9 rfl rfl rfl rfl rfl rfl (fun h => rfl)
theorem ty10 : AE.TypeOK Go.Proofs.Tryd.prog 10 ⟨.str, 1, 16, [Go.Value.string { data := #[] }]⟩ := AE.TypeOK.of (Go.Proofs.Tryd.underlying10) Go.Proofs.Tryd.type10 rfl rfl rfl rfl rfl rfl (fun h => rfl)
theorem ty11 : AE.TypeOK Go.Proofs.Tryd.prog 11 ⟨.str, 1, 16, [Go.Value.string { data := #[] }]⟩ := AE.TypeOK.of (Go.Proofs.Tryd.underlying11) Go.Proofs.Tryd.type11 rfl rfl rfl rfl rfl rfl (fun h => rfl)
theorem ty12 : AE.TypeOK Go.Proofs.Tryd.prog 12 ⟨.int Go.IntKind.u64, 1, 8, [Go.Value.int Go.IntKind.u64 0]⟩ := AE.TypeOK.of (Go.Proofs.Tryd.underlying12) Go.Proofs.Tryd.type12 rfl rfl rfl rfl rfl rfl (fun h => rfl)
theorem ty13 : AE.TypeOK Go.Proofs.Tryd.prog 13 ⟨.struct [(0, 1, false), (1, 1, false)] none, 2, 24, [Go.Value.string { data := #[] }, Go.Value.int Go.IntKind.u64 0]⟩ := AE.TypeOK.of (AE.KindOK.struct Go.Proofs.Tryd.underlying13 ⟨⟨rfl, AE.size_of Go.Proofs.Tryd.type9 rfl, Go.Proofs.Tryd.isAgg9, fun _ => rfl⟩, ⟨rfl, AE.size_of Go.Proofs.Tryd.type12 rfl, Go.Proofs.Tryd.isAgg12, fun _ => rfl⟩, trivial⟩) Go.Proofs.Tryd.type13 rfl rfl rfl rfl rfl rfl (fun h => by cases h)
theorem ty14 : AE.TypeOK Go.Proofs.Tryd.prog 14 ⟨.struct [(0, 1, false), (1, 1, false)] none, 2, 24, [Go.Value.string { data := #[] }, Go.Value.int Go.IntKind.u64 0]⟩ := AE.TypeOK.of (AE.KindOK.struct Go.Proofs.Tryd.underlying14 ⟨⟨rfl, AE.size_of Go.Proofs.Tryd.type9 rfl, Go.Proofs.Tryd.isAgg9, fun _ => rfl⟩, ⟨rfl, AE.size_of Go.Proofs.Tryd.type12 rfl, Go.Proofs.Tryd.isAgg12, fun _ => rfl⟩, trivial⟩) Go.Proofs.Tryd.type14 rfl rfl rfl rfl rfl rfl (fun h => by cases h)
theorem ty15 : AE.TypeOK Go.Proofs.Tryd.prog 15 ⟨.ptr 212, 1, 8, [Go.Value.pointer none]⟩ := AE.TypeOK.of (Go.Proofs.Tryd.underlying15) Go.Proofs.Tryd.type15 rfl rfl rfl rfl rfl rfl (fun h => rfl)
theorem ty16 : AE.TypeOK Go.Proofs.Tryd.prog 16 ⟨.ptr 215, 1, 8, [Go.Value.pointer none]⟩ := AE.TypeOK.of (Go.Proofs.Tryd.underlying16) Go.Proofs.Tryd.type16 rfl rfl rfl rfl rfl rfl (fun h => rfl)
theorem ty17 : AE.TypeOK Go.Proofs.Tryd.prog 17 ⟨.ptr 223, 1, 8, [Go.Value.pointer none]⟩ := AE.TypeOK.of (Go.Proofs.Tryd.underlying17) Go.Proofs.Tryd.type17 rfl rfl rfl rfl rfl rfl (fun h => rfl)
theorem ty18 : AE.TypeOK Go.Proofs.Tryd.prog 18 ⟨.struct [(0, 1, false)] none, 1, 8, [Go.Value.pointer none]⟩ := AE.TypeOK.of (AE.KindOK.struct Go.Proofs.Tryd.underlying18 ⟨⟨rfl, AE.size_of Go.Proofs.Tryd.type17 rfl, Go.Proofs.Tryd.isAgg17, fun _ => rfl⟩, trivial⟩) Go.Proofs.Tryd.type18 rfl rfl rfl rfl rfl rfl (fun h => by cases h)
theorem ty19 : AE.TypeOK Go.Proofs.Tryd.prog 19 ⟨.struct [(0, 1, false)] none, 1, 8, [Go.Value.pointer none]⟩ := AE.TypeOK.of (AE.KindOK.struct Go.Proofs.Tryd.underlying19 ⟨⟨rfl, AE.size_of Go.Proofs.Tryd.type17 rfl, Go.Proofs.Tryd.isAgg17, fun _ => rfl⟩, trivial⟩) Go.Proofs.Tryd.type19 rfl rfl rfl rfl rfl rfl (fun h => by cases h)
theorem ty20 : AE.TypeOK Go.Proofs.Tryd.prog 20 ⟨.iface, 1, 16, [Go.Value.nilIface]⟩ := AE.TypeOK.of (⟨_, Go.Proofs.Tryd.underlying20⟩) Go.Proofs.Tryd.type20 rfl rfl rfl rfl rfl rfl (fun h => rfl)
theorem ty21 : AE.TypeOK Go.Proofs.Tryd.prog 21 ⟨.int Go.IntKind.i32, 1, 4, [Go.Value.int Go.IntKind.i32 0]⟩ := AE.TypeOK.of (Go.Proofs.Tryd.underlying21) Go.Proofs.Tryd.type21 rfl rfl rfl rfl rfl rfl (fun h => rfl)
theorem ty22 : AE.TypeOK Go.Proofs.Tryd.prog 22 ⟨.slice 28, 1, 24, [Go.Value.slice none 0 0]⟩ := AE.TypeOK.of (Go.Proofs.Tryd.underlying22) Go.Proofs.Tryd.type22 rfl rfl rfl rfl rfl rfl (fun h => rfl)
theorem ty23 : AE.TypeOK Go.Proofs.Tryd.prog 23 ⟨.other, 1, 8, [Go.Value.nilFunc]⟩ := AE.TypeOK.of (Go.Proofs.Tryd.isAgg23) Go.Proofs.Tryd.type23 rfl rfl rfl rfl rfl rfl (fun h => rfl)
theorem ty24 : AE.TypeOK Go.Proofs.Tryd.prog 24 ⟨.int Go.IntKind.i64, 1, 8, [Go.Value.int Go.IntKind.i64 0]⟩ := AE.TypeOK.of (Go.Proofs.Tryd.underlying24) Go.Proofs.Tryd.type24 rfl rfl rfl rfl rfl rfl (fun h => rfl)
theorem ty25 : AE.TypeOK Go.Proofs.Tryd.prog 25 ⟨.other, 1, 8, [Go.Value.nilFunc]⟩ := AE.TypeOK.of (Go.Proofs.Tryd.isAgg25) Go.Proofs.Tryd.type25 rfl rfl rfl rfl rfl rfl (fun h => rfl)
theorem ty26 : AE.TypeOK Go.Proofs.Tryd.prog 26 ⟨.other, 1, 8, [Go.Value.nilFunc]⟩ := AE.TypeOK.of (Go.Proofs.Tryd.isAgg26) Go.Proofs.Tryd.type26 rfl rfl rfl rfl rfl rfl (fun h => rfl)
theorem ty27 : AE.TypeOK Go.Proofs.Tryd.prog 27 ⟨.struct [(0, 1, false), (1, 1, false), (2, 1, false)] (some [3, 3, 3]), 3, 24, [Go.Value.int Go.IntKind.i64 0, Go.Value.int Go.IntKind.i64 0, Go.Value.int Go.IntKind.i64 0]⟩ := AE.TypeOK.of (AE.KindOK.structEq Go.Proofs.Tryd.underlying27 ⟨⟨rfl, AE.size_of Go.Proofs.Tryd.type3 rfl, Go.Proofs.Tryd.isAgg3, fun _ => rfl⟩, ⟨rfl, AE.size_of Go.Proofs.Tryd.type3 rfl, Go.Proofs.Tryd.isAgg3, fun _ => rfl⟩, ⟨rfl, AE.size_of Go.Proofs.Tryd.type3 rfl, Go.Proofs.Tryd.isAgg3, fun _ => rfl⟩, trivial⟩ (by kernel_rfl) (by kernel_rfl) ⟨⟨rfl, by decide⟩, ⟨rfl, by decide⟩, ⟨rfl, by decide⟩, trivial⟩) Go.Proofs.Tryd.type27 rfl rfl rfl rfl rfl rfl (fun h => by cases h)
theorem ty28 : AE.TypeOK Go.Proofs.Tryd.prog 28 ⟨.struct [(0, 1, false), (1, 1, false), (2, 1, false)] (some [3, 3, 3]), 3, 24, [Go.Value.int Go.IntKind.i64 0, Go.Value.int Go.IntKind.i64 0, Go.Value.int Go.IntKind.i64 0]⟩ := AE.TypeOK.of (AE.KindOK.structEq Go.Proofs.Tryd.underlying28 ⟨⟨rfl, AE.size_of Go.Proofs.Tryd.type3 rfl, Go.Proofs.Tryd.isAgg3, fun _ => rfl⟩, ⟨rfl, AE.size_of Go.Proofs.Tryd.type3 rfl, Go.Proofs.Tryd.isAgg3, fun _ => rfl⟩, ⟨rfl, AE.size_of Go.Proofs.Tryd.type3 rfl, Go.Proofs.Tryd.isAgg3, fun _ => rfl⟩, trivial⟩ (by kernel_rfl) (by kernel_rfl) ⟨⟨rfl, by decide⟩, ⟨rfl, by decide⟩, ⟨rfl, by decide⟩, trivial⟩) Go.Proofs.Tryd.type28 rfl rfl rfl rfl rfl rfl (fun h => by cases h)
theorem ty29 : AE.TypeOK Go.Proofs.Tryd.prog 29 ⟨.other, 1, 8, [Go.Value.nilFunc]⟩ := AE.TypeOK.of (Go.Proofs.Tryd.isAgg29) Go.Proofs.Tryd.type29 rfl rfl rfl rfl rfl rfl (fun h => rfl)
theorem ty30 : AE.TypeOK Go.Proofs.Tryd.prog 30 ⟨.other, 1, 8, [Go.Value.nilFunc]⟩ := AE.TypeOK.of (Go.Proofs.Tryd.isAgg30) Go.Proofs.Tryd.type30 rfl rfl rfl rfl rfl rfl (fun h => rfl)
theorem ty31 : AE.TypeOK Go.Proofs.Tryd.prog 31 ⟨.other, 1, 8, [Go.Value.nilFunc]⟩ := AE.TypeOK.of (Go.Proofs.Tryd.isAgg31) Go.Proofs.Tryd.type31 rfl rfl rfl rfl rfl rfl (fun h => rfl)
theorem ty32 : AE.TypeOK Go.Proofs.Tryd.prog 32 ⟨.other, 1, 8, [Go.Value.nilFunc]⟩ := AE.TypeOK.of (Go.Proofs.Tryd.isAgg32) Go.Proofs.Tryd.type32 rfl rfl rfl rfl rfl rfl (fun h => rfl)
theorem ty33 : AE.TypeOK Go.Proofs.Tryd.prog 33 ⟨.slice 3, 1, 24, [Go.Value.slice none 0 0]⟩ := AE.TypeOK.of (Go.Proofs.Tryd.underlying33) Go.Proofs.Tryd.type33 rfl rfl rfl rfl rfl rfl (fun h => rfl)
theorem ty34 : AE.TypeOK Go.Proofs.Tryd.prog 34 ⟨.other, 1, 8, [Go.Value.nilFunc]⟩ := AE.TypeOK.of (Go.Proofs.Tryd.isAgg34) Go.Proofs.Tryd.type34 rfl rfl rfl rfl rfl rfl (fun h => rfl)
theorem ty35 : AE.TypeOK Go.Proofs.Tryd.prog 35 ⟨.other, 1, 8, [Go.Value.nilFunc]⟩ := AE.TypeOK.of (Go.Proofs.Tryd.isAgg35) Go.Proofs.Tryd.type35 rfl rfl rfl rfl rfl rfl (fun h => rfl)
theorem ty36 : AE.TypeOK Go.Proofs.Tryd.prog 36 ⟨.other, 1, 8, [Go.Value.nilFunc]⟩ := AE.TypeOK.of (Go.Proofs.Tryd.isAgg36) Go.Proofs.Tryd.type36 rfl rfl rfl rfl rfl rfl (fun h => rfl)
theorem ty37 : AE.TypeOK Go.Proofs.Tryd.prog 37 ⟨.other, 1, 8, [Go.Value.nilFunc]⟩ := AE.TypeOK.of (Go.Proofs.Tryd.isAgg37) Go.Proofs.Tryd.type37 rfl rfl rfl rfl rfl rfl (fun h => rfl)
theorem ty38 : AE.TypeOK Go.Proofs.Tryd.prog 38 ⟨.other, 1, 8, [Go.Value.nilFunc]⟩ := AE.TypeOK.of (Go.Proofs.Tryd.isAgg38) Go.Proofs.Tryd.type38 rfl rfl rfl rfl rfl rfl (fun h => rfl)
theorem ty39 : AE.TypeOK Go.Proofs.Tryd.prog 39 ⟨.slice 89, 1, 24, [Go.Value.slice none 0 0]⟩ := AE.TypeOK.of (Go.Proofs.Tryd.underlying39) Go.Proofs.Tryd.type39 rfl rfl rfl rfl rfl rfl (fun h => rfl)
theorem ty40 : AE.TypeOK Go.Proofs.Tryd.prog 40 ⟨.slice 89, 1, 24, [Go.Value.slice none 0 0]⟩ := AE.TypeOK.of (Go.Proofs.Tryd.underlying40) Go.Proofs.Tryd.type40 rfl rfl rfl rfl rfl rfl (fun h => rfl)
theorem ty42 : AE.TypeOK Go.Proofs.Tryd.prog 42 ⟨.other, 1, 8, [Go.Value.nilFunc]⟩ := AE.TypeOK.of (Go.Proofs.Tryd.isAgg42) Go.Proofs.Tryd.type42 rfl rfl rfl rfl rfl rfl (fun h => rfl)
theorem ty43 : AE.TypeOK Go.Proofs.Tryd.prog 43 ⟨.other, 1, 8, [Go.Value.nilFunc]⟩ := AE.TypeOK.of (Go.Proofs.Tryd.isAgg43) Go.Proofs.Tryd.type43 rfl rfl rfl rfl rfl rfl (fun h => rfl)
theorem ty44 : AE.TypeOK Go.Proofs.Tryd.prog 44 ⟨.struct [(0, 1, false), (1, 1, false), (2, 1, false)] (some [4, 9, 9]), 3, 40, [Go.Value.bool false, Go.Value.string { data := #[] }, Go.Value.string { data := #[] }]⟩ := AE.TypeOK.of (AE.KindOK.structEq Go.Proofs.Tryd.underlying44 ⟨⟨rfl, AE.size_of Go.Proofs.Tryd.type4 rfl, Go.Proofs.Tryd.isAgg4, fun _ => rfl⟩, ⟨rfl, AE.size_of Go.Proofs.Tryd.type9 rfl, Go.Proofs.Tryd.isAgg9, fun _ => rfl⟩, ⟨rfl, AE.size_of Go.Proofs.Tryd.type9 rfl, Go.Proofs.Tryd.isAgg9, fun _ => rfl⟩, trivial⟩ (by kernel_rfl) (by kernel_rfl) ⟨⟨rfl, by decide⟩, ⟨rfl, by decide⟩, ⟨rfl, by decide⟩, trivial⟩) Go.Proofs.Tryd.type44 rfl rfl rfl rfl rfl rfl (fun h => by cases h)
theorem ty45 : AE.TypeOK Go.Proofs.Tryd.prog 45 ⟨.struct [(0, 1, false), (1, 1, false), (2, 1, false)] (some [4, 9, 9]), 3, 40, [Go.Value.bool false, Go.Value.string { data := #[] }, Go.Value.string { data := #[] }]⟩ := AE.TypeOK.of (AE.KindOK.structEq Go.Proofs.Tryd.underlying45 ⟨⟨rfl, AE.size_of Go.Proofs.Tryd.type4 rfl, Go.Proofs.Tryd.isAgg4, fun _ => rfl⟩, ⟨rfl, AE.size_of Go.Proofs.Tryd.type9 rfl, Go.Proofs.Tryd.isAgg9, fun _ => rfl⟩, ⟨rfl, AE.size_of Go.Proofs.Tryd.type9 rfl, Go.Proofs.Tryd.isAgg9, fun _ => rfl⟩, trivial⟩ (by kernel_rfl) (by kernel_rfl) ⟨⟨rfl, by decide⟩, ⟨rfl, by decide⟩, ⟨rfl, by decide⟩, trivial⟩) Go.Proofs.Tryd.type45 rfl rfl rfl rfl rfl rfl (fun h => by cases h)
theorem ty46 : AE.TypeOK Go.Proofs.Tryd.prog 46 ⟨.struct [(0, 3, true), (3, 3, true)] (some [45, 45]), 6, 80, [Go.Value.bool false, Go.Value.string { data := #[] }, Go.Value.string { data := #[] }, Go.Value.bool false,
  Go.Value.string { data := #[] }, Go.Value.string { data := #[] }]⟩ := AE.TypeOK.of (AE.KindOK.structEq Go.Proofs.Tryd.underlying46 ⟨⟨rfl, AE.size_of Go.Proofs.Tryd.type45 rfl, Go.Proofs.Tryd.isAgg45, fun h => by cases h⟩, ⟨rfl, AE.size_of Go.Proofs.Tryd.type45 rfl, Go.Proofs.Tryd.isAgg45, fun h => by cases h⟩, trivial⟩ (by kernel_rfl) (by kernel_rfl) ⟨⟨rfl, by decide⟩, ⟨rfl, by decide⟩, trivial⟩) Go.Proofs.Tryd.type46 rfl rfl rfl rfl rfl rfl (fun h => by cases h)
theorem ty47 : AE.TypeOK Go.Proofs.Tryd.prog 47 ⟨.struct [(0, 3, true), (3, 3, true)] (some [45, 45]), 6, 80, [Go.Value.bool false, Go.Value.string { data := #[] }, Go.Value.string { data := #[] }, Go.Value.bool false,
  Go.Value.string { data := #[] }, Go.Value.string { data := #[] }]⟩ := AE.TypeOK.of (AE.KindOK.structEq Go.Proofs.Tryd.underlying47 ⟨⟨rfl, AE.size_of Go.Proofs.Tryd.type45 rfl, Go.Proofs.Tryd.isAgg45, fun h => by cases h⟩, ⟨rfl, AE.size_of Go.Proofs.Tryd.type45 rfl, Go.Proofs.Tryd.isAgg45, fun h => by cases h⟩, trivial⟩ (by kernel_rfl) (by kernel_rfl) ⟨⟨rfl, by decide⟩, ⟨rfl, by decide⟩, trivial⟩) Go.Proofs.Tryd.type47 rfl rfl rfl rfl rfl rfl (fun h => by cases h)
theorem ty48 : AE.TypeOK Go.Proofs.Tryd.prog 48 ⟨.struct [(0, 1, false), (1, 3, true)] (some [4, 45]), 4, 48, [Go.Value.bool false, Go.Value.bool false, Go.Value.string { data := #[] }, Go.Value.string { data := #[] }]⟩ := AE.TypeOK.of (AE.KindOK.structEq Go.Proofs.Tryd.underlying48 ⟨⟨rfl, AE.size_of Go.Proofs.Tryd.type4 rfl, Go.Proofs.Tryd.isAgg4, fun _ => rfl⟩, ⟨rfl, AE.size_of Go.Proofs.Tryd.type45 rfl, Go.Proofs.Tryd.isAgg45, fun h => by cases h⟩, trivial⟩ (by kernel_rfl) (by kernel_rfl) ⟨⟨rfl, by decide⟩, ⟨rfl, by decide⟩, trivial⟩) Go.Proofs.Tryd.type48 rfl rfl rfl rfl rfl rfl (fun h => by cases h)
theorem ty49 : AE.TypeOK Go.Proofs.Tryd.prog 49 ⟨.struct [(0, 1, false), (1, 3, true)] (some [4, 45]), 4, 48, [Go.Value.bool false, Go.Value.bool false, Go.Value.string { data := #[] }, Go.Value.string { data := #[] }]⟩ := AE.TypeOK.of (AE.KindOK.structEq Go.Proofs.Tryd.underlying49 ⟨⟨rfl, AE.size_of Go.Proofs.Tryd.type4 rfl, Go.Proofs.Tryd.isAgg4, fun _ => rfl⟩, ⟨rfl, AE.size_of Go.Proofs.Tryd.type45 rfl, Go.Proofs.Tryd.isAgg45, fun h => by cases h⟩, trivial⟩ (by kernel_rfl) (by kernel_rfl) ⟨⟨rfl, by decide⟩, ⟨rfl, by decide⟩, trivial⟩) Go.Proofs.Tryd.type49 rfl rfl rfl rfl rfl rfl (fun h => by cases h)
theorem ty50 : AE.TypeOK Go.Proofs.Tryd.prog 50 ⟨.struct [(0, 6, true), (6, 4, true)] (some [47, 49]), 10, 128, [Go.Value.bool false, Go.Value.string { data := #[] }, Go.Value.string { data := #[] }, Go.Value.bool false,
  Go.Value.string { data := #[] }, Go.Value.string { data := #[] }, Go.Value.bool false, Go.Value.bool false,
  Go.Value.string { data := #[] }, Go.Value.string { data := #[] }]⟩ := AE.TypeOK.of (AE.KindOK.structEq Go.Proofs.Tryd.underlying50 ⟨⟨rfl, AE.size_of Go.Proofs.Tryd.type47 rfl, Go.Proofs.Tryd.isAgg47, fun h => by cases h⟩, ⟨rfl, AE.size_of Go.Proofs.Tryd.type49 rfl, Go.Proofs.Tryd.isAgg49, fun h => by cases h⟩, trivial⟩ (by kernel_rfl) (by kernel_rfl) ⟨⟨rfl, by decide⟩, ⟨rfl, by decide⟩, trivial⟩) Go.Proofs.Tryd.type50 rfl rfl rfl rfl rfl rfl (fun h => by cases h)
theorem ty51 : AE.TypeOK Go.Proofs.Tryd.prog 51 ⟨.struct [(0, 6, true), (6, 4, true)] (some [47, 49]), 10, 128, [Go.Value.bool false, Go.Value.string { data := #[] }, Go.Value.string { data := #[] }, Go.Value.bool false,
  Go.Value.string { data := #[] }, Go.Value.string { data := #[] }, Go.Value.bool false, Go.Value.bool false,
  Go.Value.string { data := #[] }, Go.Value.string { data := #[] }]⟩ := AE.TypeOK.of (AE.KindOK.structEq Go.Proofs.Tryd.underlying51 ⟨⟨rfl, AE.size_of Go.Proofs.Tryd.type47 rfl, Go.Proofs.Tryd.isAgg47, fun h => by cases h⟩, ⟨rfl, AE.size_of Go.Proofs.Tryd.type49 rfl, Go.Proofs.Tryd.isAgg49, fun h => by cases h⟩, trivial⟩ (by kernel_rfl) (by kernel_rfl) ⟨⟨rfl, by decide⟩, ⟨rfl, by decide⟩, trivial⟩) Go.Proofs.Tryd.type51 rfl rfl rfl rfl rfl rfl (fun h => by cases h)
theorem ty52 : AE.TypeOK Go.Proofs.Tryd.prog 52 ⟨.slice 118, 1, 24, [Go.Value.slice none 0 0]⟩ := AE.TypeOK.of (Go.Proofs.Tryd.underlying52) Go.Proofs.Tryd.type52 rfl rfl rfl rfl rfl rfl (fun h => rfl)
theorem ty53 : AE.TypeOK Go.Proofs.Tryd.prog 53 ⟨.struct [(0, 1, false), (1, 10, true), (11, 1, false)] none, 12, 168, [Go.Value.string { data := #[] }, Go.Value.bool false, Go.Value.string { data := #[] }, Go.Value.string { data := #[] },
  Go.Value.bool false, Go.Value.string { data := #[] }, Go.Value.string { data := #[] }, Go.Value.bool false,
  Go.Value.bool false, Go.Value.string { data := #[] }, Go.Value.string { data := #[] }, Go.Value.slice none 0 0]⟩ := AE.TypeOK.of (AE.KindOK.struct Go.Proofs.Tryd.underlying53 ⟨⟨rfl, AE.size_of Go.Proofs.Tryd.type9 rfl, Go.Proofs.Tryd.isAgg9, fun _ => rfl⟩, ⟨rfl, AE.size_of Go.Proofs.Tryd.type51 rfl, Go.Proofs.Tryd.isAgg51, fun h => by cases h⟩, ⟨rfl, AE.size_of Go.Proofs.Tryd.type52 rfl, Go.Proofs.Tryd.isAgg52, fun _ => rfl⟩, trivial⟩) Go.Proofs.Tryd.type53 rfl rfl rfl rfl rfl rfl (fun h => by cases h)
theorem ty54 : AE.TypeOK Go.Proofs.Tryd.prog 54 ⟨.struct [(0, 1, false), (1, 10, true), (11, 1, false)] none, 12, 168, [Go.Value.string { data := #[] }, Go.Value.bool false, Go.Value.string { data := #[] }, Go.Value.string { data := #[] },
  Go.Value.bool false, Go.Value.string { data := #[] }, Go.Value.string { data := #[] }, Go.Value.bool false,
  Go.Value.bool false, Go.Value.string { data := #[] }, Go.Value.string { data := #[] }, Go.Value.slice none 0 0]⟩ := AE.TypeOK.of (AE.KindOK.struct Go.Proofs.Tryd.underlying54 ⟨⟨rfl, AE.size_of Go.Proofs.Tryd.type9 rfl, Go.Proofs.Tryd.isAgg9, fun _ => rfl⟩, ⟨rfl, AE.size_of Go.Proofs.Tryd.type51 rfl, Go.Proofs.Tryd.isAgg51, fun h => by cases h⟩, ⟨rfl, AE.size_of Go.Proofs.Tryd.type52 rfl, Go.Proofs.Tryd.isAgg52, fun _ => rfl⟩, trivial⟩) Go.Proofs.Tryd.type54 rfl rfl rfl rfl rfl rfl (fun h => by cases h)
theorem ty55 : AE.TypeOK Go.Proofs.Tryd.prog 55 ⟨.slice 33, 1, 24, [Go.Value.slice none 0 0]⟩ := AE.TypeOK.of (Go.Proofs.Tryd.underlying55) Go.Proofs.Tryd.type55 rfl rfl rfl rfl rfl rfl (fun h => rfl)
theorem ty56 : AE.TypeOK Go.Proofs.Tryd.prog 56 ⟨.other, 1, 8, [Go.Value.nilFunc]⟩ := AE.TypeOK.of (Go.Proofs.Tryd.isAgg56) Go.Proofs.Tryd.type56 rfl rfl rfl rfl rfl rfl (fun h => rfl)
theorem ty57 : AE.TypeOK Go.Proofs.Tryd.prog 57 ⟨.other, 1, 8, [Go.Value.nilFunc]⟩ := AE.TypeOK.of (Go.Proofs.Tryd.isAgg57) Go.Proofs.Tryd.type57 rfl rfl rfl rfl rfl rfl (fun h => rfl)
theorem ty58 : AE.TypeOK Go.Proofs.Tryd.prog 58 ⟨.other, 1, 8, [Go.Value.nilFunc]⟩ := AE.TypeOK.of (Go.Proofs.Tryd.isAgg58) Go.Proofs.Tryd.type58 rfl rfl rfl rfl rfl rfl (fun h => rfl)
theorem ty59 : AE.TypeOK Go.Proofs.Tryd.prog 59 ⟨.other, 1, 8, [Go.Value.nilFunc]⟩ := AE.TypeOK.of (Go.Proofs.Tryd.isAgg59) Go.Proofs.Tryd.type59 rfl rfl rfl rfl rfl rfl (fun h => rfl)
theorem ty60 : AE.TypeOK Go.Proofs.Tryd.prog 60 ⟨.other, 1, 8, [Go.Value.nilFunc]⟩ := AE.TypeOK.of (Go.Proofs.Tryd.isAgg60) Go.Proofs.Tryd.type60 rfl rfl rfl rfl rfl rfl (fun h => rfl)
theorem ty61 : AE.TypeOK Go.Proofs.Tryd.prog 61 ⟨.other, 1, 8, [Go.Value.nilFunc]⟩ := AE.TypeOK.of (Go.Proofs.Tryd.isAgg61) Go.Proofs.Tryd.type61 rfl rfl rfl rfl rfl rfl (fun h => rfl)
theorem ty62 : AE.TypeOK Go.Proofs.Tryd.prog 62 ⟨.slice 66, 1, 24, [Go.Value.slice none 0 0]⟩ := AE.TypeOK.of (Go.Proofs.Tryd.underlying62) Go.Proofs.Tryd.type62 rfl rfl rfl rfl rfl rfl (fun h => rfl)
theorem ty63 : AE.TypeOK Go.Proofs.Tryd.prog 63 ⟨.other, 1, 8, [Go.Value.nilFunc]⟩ := AE.TypeOK.of (Go.Proofs.Tryd.isAgg63) Go.Proofs.Tryd.type63 rfl rfl rfl rfl rfl rfl (fun h => rfl)
theorem ty64 : AE.TypeOK Go.Proofs.Tryd.prog 64 ⟨.other, 1, 8, [Go.Value.nilFunc]⟩ := AE.TypeOK.of (Go.Proofs.Tryd.isAgg64) Go.Proofs.Tryd.type64 rfl rfl rfl rfl rfl rfl (fun h => rfl)
theorem ty65 : AE.TypeOK Go.Proofs.Tryd.prog 65 ⟨.other, 1, 8, [Go.Value.nilFunc]⟩ := AE.TypeOK.of (Go.Proofs.Tryd.isAgg65) Go.Proofs.Tryd.type65 rfl rfl rfl rfl rfl rfl (fun h => rfl)
theorem ty66 : AE.TypeOK Go.Proofs.Tryd.prog 66 ⟨.slice 45, 1, 24, [Go.Value.slice none 0 0]⟩ := AE.TypeOK.of (Go.Proofs.Tryd.underlying66) Go.Proofs.Tryd.type66 rfl rfl rfl rfl rfl rfl (fun h => rfl)
theorem ty67 : AE.TypeOK Go.Proofs.Tryd.prog 67 ⟨.other, 1, 8, [Go.Value.nilFunc]⟩ := AE.TypeOK.of (Go.Proofs.Tryd.isAgg67) Go.Proofs.Tryd.type67 rfl rfl rfl rfl rfl rfl (fun h => rfl)
theorem ty68 : AE.TypeOK Go.Proofs.Tryd.prog 68 ⟨.other, 1, 8, [Go.Value.nilFunc]⟩ := AE.TypeOK.of (Go.Proofs.Tryd.isAgg68) Go.Proofs.Tryd.type68 rfl rfl rfl rfl rfl rfl (fun h => rfl)
theorem ty69 : AE.TypeOK Go.Proofs.Tryd.prog 69 ⟨.other, 1, 8, [Go.Value.nilFunc]⟩ := AE.TypeOK.of (Go.Proofs.Tryd.isAgg69) Go.Proofs.Tryd.type69 rfl rfl rfl rfl rfl rfl (fun h => rfl)
theorem ty70 : AE.TypeOK Go.Proofs.Tryd.prog 70 ⟨.other, 1, 8, [Go.Value.nilFunc]⟩ := AE.TypeOK.of (Go.Proofs.Tryd.isAgg70) Go.Proofs.Tryd.type70 rfl rfl rfl rfl rfl rfl (fun h => rfl)
theorem ty71 : AE.TypeOK Go.Proofs.Tryd.prog 71 ⟨.other, 1, 8, [Go.Value.nilFunc]⟩ := AE.TypeOK.of (Go.Proofs.Tryd.isAgg71) Go.Proofs.Tryd.type71 rfl rfl rfl rfl rfl rfl (fun h => rfl)
theorem ty72 : AE.TypeOK Go.Proofs.Tryd.prog 72 ⟨.other, 1, 8, [Go.Value.nilFunc]⟩ := AE.TypeOK.of (Go.Proofs.Tryd.isAgg72) Go.Proofs.Tryd.type72 rfl rfl rfl rfl rfl rfl (fun h => rfl)
theorem ty74 : AE.TypeOK Go.Proofs.Tryd.prog 74 ⟨.other, 1, 8, [Go.Value.nilFunc]⟩ := AE.TypeOK.of (Go.Proofs.Tryd.isAgg74) Go.Proofs.Tryd.type74 rfl rfl rfl rfl rfl rfl (fun h => rfl)
theorem ty75 : AE.TypeOK Go.Proofs.Tryd.prog 75 ⟨.other, 1, 8, [Go.Value.nilFunc]⟩ := AE.TypeOK.of (Go.Proofs.Tryd.isAgg75) Go.Proofs.Tryd.type75 rfl rfl rfl rfl rfl rfl (fun h => rfl)
theorem ty77 : AE.TypeOK Go.Proofs.Tryd.prog 77 ⟨.other, 1, 8, [Go.Value.nilFunc]⟩ := AE.TypeOK.of (Go.Proofs.Tryd.isAgg77) Go.Proofs.Tryd.type77 rfl rfl rfl rfl rfl rfl (fun h => rfl)
theorem ty79 : AE.TypeOK Go.Proofs.Tryd.prog 79 ⟨.other, 1, 8, [Go.Value.nilFunc]⟩ := AE.TypeOK.of (Go.Proofs.Tryd.isAgg79) Go.Proofs.Tryd.type79 rfl rfl rfl rfl rfl rfl (fun h => rfl)
theorem ty80 : AE.TypeOK Go.Proofs.Tryd.prog 80 ⟨.other, 1, 8, [Go.Value.nilFunc]⟩ := AE.TypeOK.of (Go.Proofs.Tryd.isAgg80) Go.Proofs.Tryd.type80 rfl rfl rfl rfl rfl rfl (fun h => rfl)
theorem ty81 : AE.TypeOK Go.Proofs.Tryd.prog 81 ⟨.other, 1, 8, [Go.Value.nilFunc]⟩ := AE.TypeOK.of (Go.Proofs.Tryd.isAgg81) Go.Proofs.Tryd.type81 rfl rfl rfl rfl rfl rfl (fun h => rfl)
theorem ty82 : AE.TypeOK Go.Proofs.Tryd.prog 82 ⟨.map 3 4, 1, 8, [Go.Value.map none]⟩ := AE.TypeOK.of (AE.KindOK.map Go.Proofs.Tryd.underlying82 Go.Proofs.Tryd.type4 rfl rfl) Go.Proofs.Tryd.type82 rfl rfl rfl rfl rfl rfl (fun h => rfl)
theorem ty83 : AE.TypeOK Go.Proofs.Tryd.prog 83 ⟨.slice 9, 1, 24, [Go.Value.slice none 0 0]⟩ := AE.TypeOK.of (Go.Proofs.Tryd.underlying83) Go.Proofs.Tryd.type83 rfl rfl rfl rfl rfl rfl (fun h => rfl)
theorem ty84 : AE.TypeOK Go.Proofs.Tryd.prog 84 ⟨.other, 1, 8, [Go.Value.nilFunc]⟩ := AE.TypeOK.of (Go.Proofs.Tryd.isAgg84) Go.Proofs.Tryd.type84 rfl rfl rfl rfl rfl rfl (fun h => rfl)
theorem ty85 : AE.TypeOK Go.Proofs.Tryd.prog 85 ⟨.other, 1, 8, [Go.Value.nilFunc]⟩ := AE.TypeOK.of (Go.Proofs.Tryd.isAgg85) Go.Proofs.Tryd.type85 rfl rfl rfl rfl rfl rfl (fun h => rfl)
theorem ty86 : AE.TypeOK Go.Proofs.Tryd.prog 86 ⟨.other, 1, 8, [Go.Value.nilFunc]⟩ := AE.TypeOK.of (Go.Proofs.Tryd.isAgg86) Go.Proofs.Tryd.type86 rfl rfl rfl rfl rfl rfl (fun h => rfl)
theorem ty87 : AE.TypeOK Go.Proofs.Tryd.prog 87 ⟨.other, 1, 8, [Go.Value.nilFunc]⟩ := AE.TypeOK.of (Go.Proofs.Tryd.isAgg87) Go.Proofs.Tryd.type87 rfl rfl rfl rfl rfl rfl (fun h => rfl)
theorem ty88 : AE.TypeOK Go.Proofs.Tryd.prog 88 ⟨.struct [(0, 1, false), (1, 1, false)] none, 2, 32, [Go.Value.int Go.IntKind.i64 0, Go.Value.slice none 0 0]⟩ := AE.TypeOK.of (AE.KindOK.struct Go.Proofs.Tryd.underlying88 ⟨⟨rfl, AE.size_of Go.Proofs.Tryd.type3 rfl, Go.Proofs.Tryd.isAgg3, fun _ => rfl⟩, ⟨rfl, AE.size_of Go.Proofs.Tryd.type66 rfl, Go.Proofs.Tryd.isAgg66, fun _ => rfl⟩, trivial⟩) Go.Proofs.Tryd.type88 rfl rfl rfl rfl rfl rfl (fun h => by cases h)
theorem ty89 : AE.TypeOK Go.Proofs.Tryd.prog 89 ⟨.struct [(0, 1, false), (1, 1, false)] none, 2, 32, [Go.Value.int Go.IntKind.i64 0, Go.Value.slice none 0 0]⟩ := AE.TypeOK.of (AE.KindOK.struct Go.Proofs.Tryd.underlying89 ⟨⟨rfl, AE.size_of Go.Proofs.Tryd.type3 rfl, Go.Proofs.Tryd.isAgg3, fun _ => rfl⟩, ⟨rfl, AE.size_of Go.Proofs.Tryd.type66 rfl, Go.Proofs.Tryd.isAgg66, fun _ => rfl⟩, trivial⟩) Go.Proofs.Tryd.type89 rfl rfl rfl rfl rfl rfl (fun h => by cases h)
theorem ty90 : AE.TypeOK Go.Proofs.Tryd.prog 90 ⟨.other, 1, 8, [Go.Value.nilFunc]⟩ := AE.TypeOK.of (Go.Proofs.Tryd.isAgg90) Go.Proofs.Tryd.type90 rfl rfl rfl rfl rfl rfl (fun h => rfl)
theorem ty91 : AE.TypeOK Go.Proofs.Tryd.prog 91 ⟨.other, 1, 8, [Go.Value.nilFunc]⟩ := AE.TypeOK.of (Go.Proofs.Tryd.isAgg91) Go.Proofs.Tryd.type91 rfl rfl rfl rfl rfl rfl (fun h => rfl)
theorem ty92 : AE.TypeOK Go.Proofs.Tryd.prog 92 ⟨.other, 1, 8, [Go.Value.nilFunc]⟩ := AE.TypeOK.of (Go.Proofs.Tryd.isAgg92) Go.Proofs.Tryd.type92 rfl rfl rfl rfl rfl rfl (fun h => rfl)
theorem ty93 : AE.TypeOK Go.Proofs.Tryd.prog 93 ⟨.other, 1, 8, [Go.Value.nilFunc]⟩ := AE.TypeOK.of (Go.Proofs.Tryd.isAgg93) Go.Proofs.Tryd.type93 rfl rfl rfl rfl rfl rfl (fun h => rfl)
theorem ty94 : AE.TypeOK Go.Proofs.Tryd.prog 94 ⟨.ptr 97, 1, 8, [Go.Value.pointer none]⟩ := AE.TypeOK.of (Go.Proofs.Tryd.underlying94) Go.Proofs.Tryd.type94 rfl rfl rfl rfl rfl rfl (fun h => rfl)
theorem ty95 : AE.TypeOK Go.Proofs.Tryd.prog 95 ⟨.slice 5, 1, 24, [Go.Value.slice none 0 0]⟩ := AE.TypeOK.of (Go.Proofs.Tryd.underlying95) Go.Proofs.Tryd.type95 rfl rfl rfl rfl rfl rfl (fun h => rfl)
theorem ty96 : AE.TypeOK Go.Proofs.Tryd.prog 96 ⟨.struct [(0, 1, false), (1, 1, false)] none, 2, 32, [Go.Value.pointer none, Go.Value.slice none 0 0]⟩ := AE.TypeOK.of (AE.KindOK.struct Go.Proofs.Tryd.underlying96 ⟨⟨rfl, AE.size_of Go.Proofs.Tryd.type94 rfl, Go.Proofs.Tryd.isAgg94, fun _ => rfl⟩, ⟨rfl, AE.size_of Go.Proofs.Tryd.type95 rfl, Go.Proofs.Tryd.isAgg95, fun _ => rfl⟩, trivial⟩) Go.Proofs.Tryd.type96 rfl rfl rfl rfl rfl rfl (fun h => by cases h)
theorem ty97 : AE.TypeOK Go.Proofs.Tryd.prog 97 ⟨.struct [(0, 1, false), (1, 1, false)] none, 2, 32, [Go.Value.pointer none, Go.Value.slice none 0 0]⟩ := AE.TypeOK.of (AE.KindOK.struct Go.Proofs.Tryd.underlying97 ⟨⟨rfl, AE.size_of Go.Proofs.Tryd.type94 rfl, Go.Proofs.Tryd.isAgg94, fun _ => rfl⟩, ⟨rfl, AE.size_of Go.Proofs.Tryd.type95 rfl, Go.Proofs.Tryd.isAgg95, fun _ => rfl⟩, trivial⟩) Go.Proofs.Tryd.type97 rfl rfl rfl rfl rfl rfl (fun h => by cases h)
theorem ty98 : AE.TypeOK Go.Proofs.Tryd.prog 98 ⟨.iface, 1, 16, [Go.Value.nilIface]⟩ := AE.TypeOK.of (⟨_, Go.Proofs.Tryd.underlying98⟩) Go.Proofs.Tryd.type98 rfl rfl rfl rfl rfl rfl (fun h => rfl)
theorem ty99 : AE.TypeOK Go.Proofs.Tryd.prog 99 ⟨.iface, 1, 16, [Go.Value.nilIface]⟩ := AE.TypeOK.of (⟨_, Go.Proofs.Tryd.underlying99⟩) Go.Proofs.Tryd.type99 rfl rfl rfl rfl rfl rfl (fun h => rfl)
theorem ty101 : AE.TypeOK Go.Proofs.Tryd.prog 101 ⟨.other, 1, 8, [Go.Value.nilFunc]⟩ := AE.TypeOK.of (Go.Proofs.Tryd.isAgg101) Go.Proofs.Tryd.type101 rfl rfl rfl rfl rfl rfl (fun h => rfl)
theorem ty102 : AE.TypeOK Go.Proofs.Tryd.prog 102 ⟨.other, 1, 8, [Go.Value.nilFunc]⟩ := AE.TypeOK.of (Go.Proofs.Tryd.isAgg102) Go.Proofs.Tryd.type102 rfl rfl rfl rfl rfl rfl (fun h => rfl)
theorem ty103 : AE.TypeOK Go.Proofs.Tryd.prog 103 ⟨.other, 1, 8, [Go.Value.nilFunc]⟩ := AE.TypeOK.of (Go.Proofs.Tryd.isAgg103) Go.Proofs.Tryd.type103 rfl rfl rfl rfl rfl rfl (fun h => rfl)
theorem ty105 : AE.TypeOK Go.Proofs.Tryd.prog 105 ⟨.other, 1, 8, [Go.Value.nilFunc]⟩ := AE.TypeOK.of (Go.Proofs.Tryd.isAgg105) Go.Proofs.Tryd.type105 rfl rfl rfl rfl rfl rfl (fun h => rfl)
theorem ty106 : AE.TypeOK Go.Proofs.Tryd.prog 106 ⟨.other, 1, 8, [Go.Value.nilFunc]⟩ := AE.TypeOK.of (Go.Proofs.Tryd.isAgg106) Go.Proofs.Tryd.type106 rfl rfl rfl rfl rfl rfl (fun h => rfl)
theorem ty108 : AE.TypeOK Go.Proofs.Tryd.prog 108 ⟨.other, 1, 8, [Go.Value.nilFunc]⟩ := AE.TypeOK.of (Go.Proofs.Tryd.isAgg108) Go.Proofs.Tryd.type108 rfl rfl rfl rfl rfl rfl (fun h => rfl)
theorem ty109 : AE.TypeOK Go.Proofs.Tryd.prog 109 ⟨.other, 1, 8, [Go.Value.nilFunc]⟩ := AE.TypeOK.of (Go.Proofs.Tryd.isAgg109) Go.Proofs.Tryd.type109 rfl rfl rfl rfl rfl rfl (fun h => rfl)
theorem ty110 : AE.TypeOK Go.Proofs.Tryd.prog 110 ⟨.other, 1, 8, [Go.Value.nilFunc]⟩ := AE.TypeOK.of (Go.Proofs.Tryd.isAgg110) Go.Proofs.Tryd.type110 rfl rfl rfl rfl rfl rfl (fun h => rfl)
theorem ty111 : AE.TypeOK Go.Proofs.Tryd.prog 111 ⟨.other, 1, 8, [Go.Value.nilFunc]⟩ := AE.TypeOK.of (Go.Proofs.Tryd.isAgg111) Go.Proofs.Tryd.type111 rfl rfl rfl rfl rfl rfl (fun h => rfl)
theorem ty112 : AE.TypeOK Go.Proofs.Tryd.prog 112 ⟨.slice 22, 1, 24, [Go.Value.slice none 0 0]⟩ := AE.TypeOK.of (Go.Proofs.Tryd.underlying112) Go.Proofs.Tryd.type112 rfl rfl rfl rfl rfl rfl (fun h => rfl)
theorem ty113 : AE.TypeOK Go.Proofs.Tryd.prog 113 ⟨.other, 1, 8, [Go.Value.nilFunc]⟩ := AE.TypeOK.of (Go.Proofs.Tryd.isAgg113) Go.Proofs.Tryd.type113 rfl rfl rfl rfl rfl rfl (fun h => rfl)
theorem ty114 : AE.TypeOK Go.Proofs.Tryd.prog 114 ⟨.other, 1, 8, [Go.Value.nilFunc]⟩ := AE.TypeOK.of (Go.Proofs.Tryd.isAgg114) Go.Proofs.Tryd.type114 rfl rfl rfl rfl rfl rfl (fun h => rfl)
theorem ty115 : AE.TypeOK Go.Proofs.Tryd.prog 115 ⟨.other, 1, 8, [Go.Value.nilFunc]⟩ := AE.TypeOK.of (Go.Proofs.Tryd.isAgg115) Go.Proofs.Tryd.type115 rfl rfl rfl rfl rfl rfl (fun h => rfl)
theorem ty116 : AE.TypeOK Go.Proofs.Tryd.prog 116 ⟨.slice 47, 1, 24, [Go.Value.slice none 0 0]⟩ := AE.TypeOK.of (Go.Proofs.Tryd.underlying116) Go.Proofs.Tryd.type116 rfl rfl rfl rfl rfl rfl (fun h => rfl)
theorem ty117 : AE.TypeOK Go.Proofs.Tryd.prog 117 ⟨.struct [(0, 3, true), (3, 3, true), (6, 3, true), (9, 3, true), (12, 3, true), (15, 1, false)] none, 16, 224, [Go.Value.bool false, Go.Value.string { data := #[] }, Go.Value.string { data := #[] }, Go.Value.bool false,
  Go.Value.string { data := #[] }, Go.Value.string { data := #[] }, Go.Value.bool false,
  Go.Value.string { data := #[] }, Go.Value.string { data := #[] }, Go.Value.bool false,
  Go.Value.string { data := #[] }, Go.Value.string { data := #[] }, Go.Value.bool false,
  Go.Value.string { data := #[] }, Go.Value.string { data := #[] }, Go.Value.slice none 0 0]⟩ := AE.TypeOK.of (AE.KindOK.struct Go.Proofs.Tryd.underlying117 ⟨⟨rfl, AE.size_of Go.Proofs.Tryd.type45 rfl, Go.Proofs.Tryd.isAgg45, fun h => by cases h⟩, ⟨rfl, AE.size_of Go.Proofs.Tryd.type45 rfl, Go.Proofs.Tryd.isAgg45, fun h => by cases h⟩, ⟨rfl, AE.size_of Go.Proofs.Tryd.type45 rfl, Go.Proofs.Tryd.isAgg45, fun h => by cases h⟩, ⟨rfl, AE.size_of Go.Proofs.Tryd.type45 rfl, Go.Proofs.Tryd.isAgg45, fun h => by cases h⟩, ⟨rfl, AE.size_of Go.Proofs.Tryd.type45 rfl, Go.Proofs.Tryd.isAgg45, fun h => by cases h⟩, ⟨rfl, AE.size_of Go.Proofs.Tryd.type116 rfl, Go.Proofs.Tryd.isAgg116, fun _ => rfl⟩, trivial⟩) Go.Proofs.Tryd.type117 rfl rfl rfl rfl rfl rfl (fun h => by cases h)
theorem ty118 : AE.TypeOK Go.Proofs.Tryd.prog 118 ⟨.struct [(0, 3, true), (3, 3, true), (6, 3, true), (9, 3, true), (12, 3, true), (15, 1, false)] none, 16, 224, [Go.Value.bool false, Go.Value.string { data := #[] }, Go.Value.string { data := #[] }, Go.Value.bool false,
  Go.Value.string { data := #[] }, Go.Value.string { data := #[] }, Go.Value.bool false,
  Go.Value.string { data := #[] }, Go.Value.string { data := #[] }, Go.Value.bool false,
  Go.Value.string { data := #[] }, Go.Value.string { data := #[] }, Go.Value.bool false,
  Go.Value.string { data := #[] }, Go.Value.string { data := #[] }, Go.Value.slice none 0 0]⟩ := AE.TypeOK.of (AE.KindOK.struct Go.Proofs.Tryd.underlying118 ⟨⟨rfl, AE.size_of Go.Proofs.Tryd.type45 rfl, Go.Proofs.Tryd.isAgg45, fun h => by cases h⟩, ⟨rfl, AE.size_of Go.Proofs.Tryd.type45 rfl, Go.Proofs.Tryd.isAgg45, fun h => by cases h⟩, ⟨rfl, AE.size_of Go.Proofs.Tryd.type45 rfl, Go.Proofs.Tryd.isAgg45, fun h => by cases h⟩, ⟨rfl, AE.size_of Go.Proofs.Tryd.type45 rfl, Go.Proofs.Tryd.isAgg45, fun h => by cases h⟩, ⟨rfl, AE.size_of Go.Proofs.Tryd.type45 rfl, Go.Proofs.Tryd.isAgg45, fun h => by cases h⟩, ⟨rfl, AE.size_of Go.Proofs.Tryd.type116 rfl, Go.Proofs.Tryd.isAgg116, fun _ => rfl⟩, trivial⟩) Go.Proofs.Tryd.type118 rfl rfl rfl rfl rfl rfl (fun h => by cases h)
theorem ty119 : AE.TypeOK Go.Proofs.Tryd.prog 119 ⟨.other, 1, 8, [Go.Value.nilFunc]⟩ := AE.TypeOK.of (Go.Proofs.Tryd.isAgg119) Go.Proofs.Tryd.type119 rfl rfl rfl rfl rfl rfl (fun h => rfl)
theorem ty120 : AE.TypeOK Go.Proofs.Tryd.prog 120 ⟨.other, 1, 8, [Go.Value.nilFunc]⟩ := AE.TypeOK.of (Go.Proofs.Tryd.isAgg120) Go.Proofs.Tryd.type120 rfl rfl rfl rfl rfl rfl (fun h => rfl)
theorem ty121 : AE.TypeOK Go.Proofs.Tryd.prog 121 ⟨.other, 1, 8, [Go.Value.nilFunc]⟩ := AE.TypeOK.of (Go.Proofs.Tryd.isAgg121) Go.Proofs.Tryd.type121 rfl rfl rfl rfl rfl rfl (fun h => rfl)
theorem ty122 : AE.TypeOK Go.Proofs.Tryd.prog 122 ⟨.other, 1, 8, [Go.Value.nilFunc]⟩ := AE.TypeOK.of (Go.Proofs.Tryd.isAgg122) Go.Proofs.Tryd.type122 rfl rfl rfl rfl rfl rfl (fun h => rfl)
theorem ty123 : AE.TypeOK Go.Proofs.Tryd.prog 123 ⟨.other, 1, 8, [Go.Value.nilFunc]⟩ := AE.TypeOK.of (Go.Proofs.Tryd.isAgg123) Go.Proofs.Tryd.type123 rfl rfl rfl rfl rfl rfl (fun h => rfl)
theorem ty124 : AE.TypeOK Go.Proofs.Tryd.prog 124 ⟨.other, 1, 8, [Go.Value.nilFunc]⟩ := AE.TypeOK.of (Go.Proofs.Tryd.isAgg124) Go.Proofs.Tryd.type124 rfl rfl rfl rfl rfl rfl (fun h => rfl)
theorem ty126 : AE.TypeOK Go.Proofs.Tryd.prog 126 ⟨.other, 1, 8, [Go.Value.nilFunc]⟩ := AE.TypeOK.of (Go.Proofs.Tryd.isAgg126) Go.Proofs.Tryd.type126 rfl rfl rfl rfl rfl rfl (fun h => rfl)
theorem ty127 : AE.TypeOK Go.Proofs.Tryd.prog 127 ⟨.ptr 5, 1, 8, [Go.Value.pointer none]⟩ := AE.TypeOK.of (Go.Proofs.Tryd.underlying127) Go.Proofs.Tryd.type127 rfl rfl rfl rfl rfl rfl (fun h => rfl)
theorem ty128 : AE.TypeOK Go.Proofs.Tryd.prog 128 ⟨.other, 1, 8, [Go.Value.nilFunc]⟩ := AE.TypeOK.of (Go.Proofs.Tryd.isAgg128) Go.Proofs.Tryd.type128 rfl rfl rfl rfl rfl rfl (fun h => rfl)
theorem ty129 : AE.TypeOK Go.Proofs.Tryd.prog 129 ⟨.other, 1, 8, [Go.Value.nilFunc]⟩ := AE.TypeOK.of (Go.Proofs.Tryd.isAgg129) Go.Proofs.Tryd.type129 rfl rfl rfl rfl rfl rfl (fun h => rfl)
theorem ty130 : AE.TypeOK Go.Proofs.Tryd.prog 130 ⟨.other, 1, 8, [Go.Value.nilFunc]⟩ := AE.TypeOK.of (Go.Proofs.Tryd.isAgg130) Go.Proofs.Tryd.type130 rfl rfl rfl rfl rfl rfl (fun h => rfl)
theorem ty131 : AE.TypeOK Go.Proofs.Tryd.prog 131 ⟨.other, 1, 8, [Go.Value.nilFunc]⟩ := AE.TypeOK.of (Go.Proofs.Tryd.isAgg131) Go.Proofs.Tryd.type131 rfl rfl rfl rfl rfl rfl (fun h => rfl)
theorem ty132 : AE.TypeOK Go.Proofs.Tryd.prog 132 ⟨.other, 1, 8, [Go.Value.nilFunc]⟩ := AE.TypeOK.of (Go.Proofs.Tryd.isAgg132) Go.Proofs.Tryd.type132 rfl rfl rfl rfl rfl rfl (fun h => rfl)
theorem ty133 : AE.TypeOK Go.Proofs.Tryd.prog 133 ⟨.other, 1, 8, [Go.Value.nilFunc]⟩ := AE.TypeOK.of (Go.Proofs.Tryd.isAgg133) Go.Proofs.Tryd.type133 rfl rfl rfl rfl rfl rfl (fun h => rfl)
theorem ty134 : AE.TypeOK Go.Proofs.Tryd.prog 134 ⟨.other, 1, 8, [Go.Value.nilFunc]⟩ := AE.TypeOK.of (Go.Proofs.Tryd.isAgg134) Go.Proofs.Tryd.type134 rfl rfl rfl rfl rfl rfl (fun h => rfl)
theorem ty136 : AE.TypeOK Go.Proofs.Tryd.prog 136 ⟨.other, 1, 8, [Go.Value.nilFunc]⟩ := AE.TypeOK.of (Go.Proofs.Tryd.isAgg136) Go.Proofs.Tryd.type136 rfl rfl rfl rfl rfl rfl (fun h => rfl)
theorem ty137 : AE.TypeOK Go.Proofs.Tryd.prog 137 ⟨.other, 1, 8, [Go.Value.pointer none]⟩ := AE.TypeOK.of (Go.Proofs.Tryd.isAgg137) Go.Proofs.Tryd.type137 rfl rfl rfl rfl rfl rfl (fun h => rfl)
theorem ty138 : AE.TypeOK Go.Proofs.Tryd.prog 138 ⟨.other, 1, 8, [Go.Value.nilFunc]⟩ := AE.TypeOK.of (Go.Proofs.Tryd.isAgg138) Go.Proofs.Tryd.type138 rfl rfl rfl rfl rfl rfl (fun h => rfl)
theorem ty139 : AE.TypeOK Go.Proofs.Tryd.prog 139 ⟨.other, 1, 8, [Go.Value.nilFunc]⟩ := AE.TypeOK.of (Go.Proofs.Tryd.isAgg139) Go.Proofs.Tryd.type139 rfl rfl rfl rfl rfl rfl (fun h => rfl)
theorem ty140 : AE.TypeOK Go.Proofs.Tryd.prog 140 ⟨.other, 1, 8, [Go.Value.nilFunc]⟩ := AE.TypeOK.of (Go.Proofs.Tryd.isAgg140) Go.Proofs.Tryd.type140 rfl rfl rfl rfl rfl rfl (fun h => rfl)
theorem ty141 : AE.TypeOK Go.Proofs.Tryd.prog 141 ⟨.int Go.IntKind.i64, 1, 8, [Go.Value.int Go.IntKind.i64 0]⟩ := AE.TypeOK.of (Go.Proofs.Tryd.underlying141) Go.Proofs.Tryd.type141 rfl rfl rfl rfl rfl rfl (fun h => rfl)
theorem ty143 : AE.TypeOK Go.Proofs.Tryd.prog 143 ⟨.other, 1, 8, [Go.Value.nilFunc]⟩ := AE.TypeOK.of (Go.Proofs.Tryd.isAgg143) Go.Proofs.Tryd.type143 rfl rfl rfl rfl rfl rfl (fun h => rfl)
theorem ty144 : AE.TypeOK Go.Proofs.Tryd.prog 144 ⟨.ptr 173, 1, 8, [Go.Value.pointer none]⟩ := AE.TypeOK.of (Go.Proofs.Tryd.underlying144) Go.Proofs.Tryd.type144 rfl rfl rfl rfl rfl rfl (fun h => rfl)
theorem ty145 : AE.TypeOK Go.Proofs.Tryd.prog 145 ⟨.other, 1, 8, [Go.Value.nilFunc]⟩ := AE.TypeOK.of (Go.Proofs.Tryd.isAgg145) Go.Proofs.Tryd.type145 rfl rfl rfl rfl rfl rfl (fun h => rfl)
theorem ty146 : AE.TypeOK Go.Proofs.Tryd.prog 146 ⟨.other, 1, 8, [Go.Value.nilFunc]⟩ := AE.TypeOK.of (Go.Proofs.Tryd.isAgg146) Go.Proofs.Tryd.type146 rfl rfl rfl rfl rfl rfl (fun h => rfl)
theorem ty147 : AE.TypeOK Go.Proofs.Tryd.prog 147 ⟨.other, 1, 8, [Go.Value.nilFunc]⟩ := AE.TypeOK.of (Go.Proofs.Tryd.isAgg147) Go.Proofs.Tryd.type147 rfl rfl rfl rfl rfl rfl (fun h => rfl)
theorem ty148 : AE.TypeOK Go.Proofs.Tryd.prog 148 ⟨.other, 1, 8, [Go.Value.nilFunc]⟩ := AE.TypeOK.of (Go.Proofs.Tryd.isAgg148) Go.Proofs.Tryd.type148 rfl rfl rfl rfl rfl rfl (fun h => rfl)
theorem ty149 : AE.TypeOK Go.Proofs.Tryd.prog 149 ⟨.other, 1, 8, [Go.Value.nilFunc]⟩ := AE.TypeOK.of (Go.Proofs.Tryd.isAgg149) Go.Proofs.Tryd.type149 rfl rfl rfl rfl rfl rfl (fun h => rfl)
theorem ty150 : AE.TypeOK Go.Proofs.Tryd.prog 150 ⟨.other, 1, 8, [Go.Value.nilFunc]⟩ := AE.TypeOK.of (Go.Proofs.Tryd.isAgg150) Go.Proofs.Tryd.type150 rfl rfl rfl rfl rfl rfl (fun h => rfl)
theorem ty151 : AE.TypeOK Go.Proofs.Tryd.prog 151 ⟨.int Go.IntKind.u64, 1, 8, [Go.Value.int Go.IntKind.u64 0]⟩ := AE.TypeOK.of (Go.Proofs.Tryd.underlying151) Go.Proofs.Tryd.type151 rfl rfl rfl rfl rfl rfl (fun h => rfl)
theorem ty152 : AE.TypeOK Go.Proofs.Tryd.prog 152 ⟨.other, 1, 8, [Go.Value.nilFunc]⟩ := AE.TypeOK.of (Go.Proofs.Tryd.isAgg152) Go.Proofs.Tryd.type152 rfl rfl rfl rfl rfl rfl (fun h => rfl)
theorem ty153 : AE.TypeOK Go.Proofs.Tryd.prog 153 ⟨.slice 155, 1, 24, [Go.Value.slice none 0 0]⟩ := AE.TypeOK.of (Go.Proofs.Tryd.underlying153) Go.Proofs.Tryd.type153 rfl rfl rfl rfl rfl rfl (fun h => rfl)
theorem ty154 : AE.TypeOK Go.Proofs.Tryd.prog 154 ⟨.other, 1, 8, [Go.Value.nilFunc]⟩ := AE.TypeOK.of (Go.Proofs.Tryd.isAgg154) Go.Proofs.Tryd.type154 rfl rfl rfl rfl rfl rfl (fun h => rfl)
theorem ty155 : AE.TypeOK Go.Proofs.Tryd.prog 155 ⟨.int Go.IntKind.u32, 1, 4, [Go.Value.int Go.IntKind.u32 0]⟩ := AE.TypeOK.of (Go.Proofs.Tryd.underlying155) Go.Proofs.Tryd.type155 rfl rfl rfl rfl rfl rfl (fun h => rfl)
theorem ty156 : AE.TypeOK Go.Proofs.Tryd.prog 156 ⟨.int Go.IntKind.u64, 1, 8, [Go.Value.int Go.IntKind.u64 0]⟩ := AE.TypeOK.of (Go.Proofs.Tryd.underlying156) Go.Proofs.Tryd.type156 rfl rfl rfl rfl rfl rfl (fun h => rfl)
theorem ty157 : AE.TypeOK Go.Proofs.Tryd.prog 157 ⟨.other, 1, 8, [Go.Value.nilFunc]⟩ := AE.TypeOK.of (Go.Proofs.Tryd.isAgg157) Go.Proofs.Tryd.type157 rfl rfl rfl rfl rfl rfl (fun h => rfl)
theorem ty159 : AE.TypeOK Go.Proofs.Tryd.prog 159 ⟨.other, 1, 8, [Go.Value.nilFunc]⟩ := AE.TypeOK.of (Go.Proofs.Tryd.isAgg159) Go.Proofs.Tryd.type159 rfl rfl rfl rfl rfl rfl (fun h => rfl)
theorem ty160 : AE.TypeOK Go.Proofs.Tryd.prog 160 ⟨.other, 1, 8, [Go.Value.nilFunc]⟩ := AE.TypeOK.of (Go.Proofs.Tryd.isAgg160) Go.Proofs.Tryd.type160 rfl rfl rfl rfl rfl rfl (fun h => rfl)
theorem ty161 : AE.TypeOK Go.Proofs.Tryd.prog 161 ⟨.array 24 5, 24, 24, [Go.Value.int Go.IntKind.u8 0, Go.Value.int Go.IntKind.u8 0, Go.Value.int Go.IntKind.u8 0, Go.Value.int Go.IntKind.u8 0,
  Go.Value.int Go.IntKind.u8 0, Go.Value.int Go.IntKind.u8 0, Go.Value.int Go.IntKind.u8 0,
  Go.Value.int Go.IntKind.u8 0, Go.Value.int Go.IntKind.u8 0, Go.Value.int Go.IntKind.u8 0,
  Go.Value.int Go.IntKind.u8 0, Go.Value.int Go.IntKind.u8 0, Go.Value.int Go.IntKind.u8 0,
  Go.Value.int Go.IntKind.u8 0, Go.Value.int Go.IntKind.u8 0, Go.Value.int Go.IntKind.u8 0,
  Go.Value.int Go.IntKind.u8 0, Go.Value.int Go.IntKind.u8 0, Go.Value.int Go.IntKind.u8 0,
  Go.Value.int Go.IntKind.u8 0, Go.Value.int Go.IntKind.u8 0, Go.Value.int Go.IntKind.u8 0,
  Go.Value.int Go.IntKind.u8 0, Go.Value.int Go.IntKind.u8 0]⟩ := AE.TypeOK.of (Go.Proofs.Tryd.underlying161) Go.Proofs.Tryd.type161 rfl rfl rfl rfl rfl rfl (fun h => by cases h)
theorem ty162 : AE.TypeOK Go.Proofs.Tryd.prog 162 ⟨.other, 1, 8, [Go.Value.nilFunc]⟩ := AE.TypeOK.of (Go.Proofs.Tryd.isAgg162) Go.Proofs.Tryd.type162 rfl rfl rfl rfl rfl rfl (fun h => rfl)
theorem ty163 : AE.TypeOK Go.Proofs.Tryd.prog 163 ⟨.other, 1, 8, [Go.Value.nilFunc]⟩ := AE.TypeOK.of (Go.Proofs.Tryd.isAgg163) Go.Proofs.Tryd.type163 rfl rfl rfl rfl rfl rfl (fun h => rfl)
theorem ty165 : AE.TypeOK Go.Proofs.Tryd.prog 165 ⟨.other, 1, 8, [Go.Value.nilFunc]⟩ := AE.TypeOK.of (Go.Proofs.Tryd.isAgg165) Go.Proofs.Tryd.type165 rfl rfl rfl rfl rfl rfl (fun h => rfl)
theorem ty166 : AE.TypeOK Go.Proofs.Tryd.prog 166 ⟨.other, 1, 8, [Go.Value.nilFunc]⟩ := AE.TypeOK.of (Go.Proofs.Tryd.isAgg166) Go.Proofs.Tryd.type166 rfl rfl rfl rfl rfl rfl (fun h => rfl)
theorem ty167 : AE.TypeOK Go.Proofs.Tryd.prog 167 ⟨.other, 1, 8, [Go.Value.nilFunc]⟩ := AE.TypeOK.of (Go.Proofs.Tryd.isAgg167) Go.Proofs.Tryd.type167 rfl rfl rfl rfl rfl rfl (fun h => rfl)
theorem ty169 : AE.TypeOK Go.Proofs.Tryd.prog 169 ⟨.other, 1, 8, [Go.Value.nilFunc]⟩ := AE.TypeOK.of (Go.Proofs.Tryd.isAgg169) Go.Proofs.Tryd.type169 rfl rfl rfl rfl rfl rfl (fun h => rfl)
theorem ty171 : AE.TypeOK Go.Proofs.Tryd.prog 171 ⟨.other, 1, 8, [Go.Value.nilFunc]⟩ := AE.TypeOK.of (Go.Proofs.Tryd.isAgg171) Go.Proofs.Tryd.type171 rfl rfl rfl rfl rfl rfl (fun h => rfl)
theorem ty172 : AE.TypeOK Go.Proofs.Tryd.prog 172 ⟨.struct [(0, 1, false), (1, 1, false), (2, 1, false)] none, 3, 48, [Go.Value.string { data := #[] }, Go.Value.string { data := #[] }, Go.Value.nilIface]⟩ := AE.TypeOK.of (AE.KindOK.struct Go.Proofs.Tryd.underlying172 ⟨⟨rfl, AE.size_of Go.Proofs.Tryd.type9 rfl, Go.Proofs.Tryd.isAgg9, fun _ => rfl⟩, ⟨rfl, AE.size_of Go.Proofs.Tryd.type9 rfl, Go.Proofs.Tryd.isAgg9, fun _ => rfl⟩, ⟨rfl, AE.size_of Go.Proofs.Tryd.type99 rfl, Go.Proofs.Tryd.isAgg99, fun _ => rfl⟩, trivial⟩) Go.Proofs.Tryd.type172 rfl rfl rfl rfl rfl rfl (fun h => by cases h)
theorem ty173 : AE.TypeOK Go.Proofs.Tryd.prog 173 ⟨.struct [(0, 1, false), (1, 1, false), (2, 1, false)] none, 3, 48, [Go.Value.string { data := #[] }, Go.Value.string { data := #[] }, Go.Value.nilIface]⟩ := AE.TypeOK.of (AE.KindOK.struct Go.Proofs.Tryd.underlying173 ⟨⟨rfl, AE.size_of Go.Proofs.Tryd.type9 rfl, Go.Proofs.Tryd.isAgg9, fun _ => rfl⟩, ⟨rfl, AE.size_of Go.Proofs.Tryd.type9 rfl, Go.Proofs.Tryd.isAgg9, fun _ => rfl⟩, ⟨rfl, AE.size_of Go.Proofs.Tryd.type99 rfl, Go.Proofs.Tryd.isAgg99, fun _ => rfl⟩, trivial⟩) Go.Proofs.Tryd.type173 rfl rfl rfl rfl rfl rfl (fun h => by cases h)
theorem ty174 : AE.TypeOK Go.Proofs.Tryd.prog 174 ⟨.other, 1, 8, [Go.Value.nilFunc]⟩ := AE.TypeOK.of (Go.Proofs.Tryd.isAgg174) Go.Proofs.Tryd.type174 rfl rfl rfl rfl rfl rfl (fun h => rfl)
theorem ty175 : AE.TypeOK Go.Proofs.Tryd.prog 175 ⟨.other, 1, 8, [Go.Value.nilFunc]⟩ := AE.TypeOK.of (Go.Proofs.Tryd.isAgg175) Go.Proofs.Tryd.type175 rfl rfl rfl rfl rfl rfl (fun h => rfl)
theorem ty176 : AE.TypeOK Go.Proofs.Tryd.prog 176 ⟨.array 8 5, 8, 8, [Go.Value.int Go.IntKind.u8 0, Go.Value.int Go.IntKind.u8 0, Go.Value.int Go.IntKind.u8 0, Go.Value.int Go.IntKind.u8 0,
  Go.Value.int Go.IntKind.u8 0, Go.Value.int Go.IntKind.u8 0, Go.Value.int Go.IntKind.u8 0,
  Go.Value.int Go.IntKind.u8 0]⟩ := AE.TypeOK.of (Go.Proofs.Tryd.underlying176) Go.Proofs.Tryd.type176 rfl rfl rfl rfl rfl rfl (fun h => by cases h)
theorem ty177 : AE.TypeOK Go.Proofs.Tryd.prog 177 ⟨.other, 1, 8, [Go.Value.nilFunc]⟩ := AE.TypeOK.of (Go.Proofs.Tryd.isAgg177) Go.Proofs.Tryd.type177 rfl rfl rfl rfl rfl rfl (fun h => rfl)
theorem ty179 : AE.TypeOK Go.Proofs.Tryd.prog 179 ⟨.other, 1, 8, [Go.Value.nilFunc]⟩ := AE.TypeOK.of (Go.Proofs.Tryd.isAgg179) Go.Proofs.Tryd.type179 rfl rfl rfl rfl rfl rfl (fun h => rfl)
theorem ty180 : AE.TypeOK Go.Proofs.Tryd.prog 180 ⟨.other, 1, 8, [Go.Value.nilFunc]⟩ := AE.TypeOK.of (Go.Proofs.Tryd.isAgg180) Go.Proofs.Tryd.type180 rfl rfl rfl rfl rfl rfl (fun h => rfl)
theorem ty181 : AE.TypeOK Go.Proofs.Tryd.prog 181 ⟨.other, 1, 8, [Go.Value.nilFunc]⟩ := AE.TypeOK.of (Go.Proofs.Tryd.isAgg181) Go.Proofs.Tryd.type181 rfl rfl rfl rfl rfl rfl (fun h => rfl)
theorem ty182 : AE.TypeOK Go.Proofs.Tryd.prog 182 ⟨.array 20 151, 20, 160, [Go.Value.int Go.IntKind.u64 0, Go.Value.int Go.IntKind.u64 0, Go.Value.int Go.IntKind.u64 0,
  Go.Value.int Go.IntKind.u64 0, Go.Value.int Go.IntKind.u64 0, Go.Value.int Go.IntKind.u64 0,
  Go.Value.int Go.IntKind.u64 0, Go.Value.int Go.IntKind.u64 0, Go.Value.int Go.IntKind.u64 0,
  Go.Value.int Go.IntKind.u64 0, Go.Value.int Go.IntKind.u64 0, Go.Value.int Go.IntKind.u64 0,
  Go.Value.int Go.IntKind.u64 0, Go.Value.int Go.IntKind.u64 0, Go.Value.int Go.IntKind.u64 0,
  Go.Value.int Go.IntKind.u64 0, Go.Value.int Go.IntKind.u64 0, Go.Value.int Go.IntKind.u64 0,
  Go.Value.int Go.IntKind.u64 0, Go.Value.int Go.IntKind.u64 0]⟩ := AE.TypeOK.of (Go.Proofs.Tryd.underlying182) Go.Proofs.Tryd.type182 rfl rfl rfl rfl rfl rfl (fun h => by cases h)
theorem ty184 : AE.TypeOK Go.Proofs.Tryd.prog 184 ⟨.other, 1, 8, [Go.Value.nilFunc]⟩ := AE.TypeOK.of (Go.Proofs.Tryd.isAgg184) Go.Proofs.Tryd.type184 rfl rfl rfl rfl rfl rfl (fun h => rfl)
theorem ty186 : AE.TypeOK Go.Proofs.Tryd.prog 186 ⟨.other, 1, 8, [Go.Value.nilFunc]⟩ := AE.TypeOK.of (Go.Proofs.Tryd.isAgg186) Go.Proofs.Tryd.type186 rfl rfl rfl rfl rfl rfl (fun h => rfl)
theorem ty187 : AE.TypeOK Go.Proofs.Tryd.prog 187 ⟨.other, 1, 8, [Go.Value.nilFunc]⟩ := AE.TypeOK.of (Go.Proofs.Tryd.isAgg187) Go.Proofs.Tryd.type187 rfl rfl rfl rfl rfl rfl (fun h => rfl)
theorem ty188 : AE.TypeOK Go.Proofs.Tryd.prog 188 ⟨.ptr 190, 1, 8, [Go.Value.pointer none]⟩ := AE.TypeOK.of (Go.Proofs.Tryd.underlying188) Go.Proofs.Tryd.type188 rfl rfl rfl rfl rfl rfl (fun h => rfl)
theorem ty189 : AE.TypeOK Go.Proofs.Tryd.prog 189 ⟨.struct [(0, 1, false)] (some [9]), 1, 16, [Go.Value.string { data := #[] }]⟩ := AE.TypeOK.of (AE.KindOK.structEq Go.Proofs.Tryd.underlying189 ⟨⟨rfl, AE.size_of Go.Proofs.Tryd.type9 rfl, Go.Proofs.Tryd.isAgg9, fun _ => rfl⟩, trivial⟩ (by kernel_rfl) (by kernel_rfl) ⟨⟨rfl, by decide⟩, trivial⟩) Go.Proofs.Tryd.type189 rfl rfl rfl rfl rfl rfl (fun h => by cases h)
theorem ty190 : AE.TypeOK Go.Proofs.Tryd.prog 190 ⟨.struct [(0, 1, false)] (some [9]), 1, 16, [Go.Value.string { data := #[] }]⟩ := AE.TypeOK.of (AE.KindOK.structEq Go.Proofs.Tryd.underlying190 ⟨⟨rfl, AE.size_of Go.Proofs.Tryd.type9 rfl, Go.Proofs.Tryd.isAgg9, fun _ => rfl⟩, trivial⟩ (by kernel_rfl) (by kernel_rfl) ⟨⟨rfl, by decide⟩, trivial⟩) Go.Proofs.Tryd.type190 rfl rfl rfl rfl rfl rfl (fun h => by cases h)
theorem ty191 : AE.TypeOK Go.Proofs.Tryd.prog 191 ⟨.other, 1, 8, [Go.Value.nilFunc]⟩ := AE.TypeOK.of (Go.Proofs.Tryd.isAgg191) Go.Proofs.Tryd.type191 rfl rfl rfl rfl rfl rfl (fun h => rfl)
theorem ty192 : AE.TypeOK Go.Proofs.Tryd.prog 192 ⟨.other, 1, 8, [Go.Value.nilFunc]⟩ := AE.TypeOK.of (Go.Proofs.Tryd.isAgg192) Go.Proofs.Tryd.type192 rfl rfl rfl rfl rfl rfl (fun h => rfl)
theorem ty193 : AE.TypeOK Go.Proofs.Tryd.prog 193 ⟨.slice 151, 1, 24, [Go.Value.slice none 0 0]⟩ := AE.TypeOK.of (Go.Proofs.Tryd.underlying193) Go.Proofs.Tryd.type193 rfl rfl rfl rfl rfl rfl (fun h => rfl)
theorem ty194 : AE.TypeOK Go.Proofs.Tryd.prog 194 ⟨.other, 1, 8, [Go.Value.nilFunc]⟩ := AE.TypeOK.of (Go.Proofs.Tryd.isAgg194) Go.Proofs.Tryd.type194 rfl rfl rfl rfl rfl rfl (fun h => rfl)
theorem ty195 : AE.TypeOK Go.Proofs.Tryd.prog 195 ⟨.other, 1, 8, [Go.Value.nilFunc]⟩ := AE.TypeOK.of (Go.Proofs.Tryd.isAgg195) Go.Proofs.Tryd.type195 rfl rfl rfl rfl rfl rfl (fun h => rfl)
theorem ty196 : AE.TypeOK Go.Proofs.Tryd.prog 196 ⟨.other, 1, 8, [Go.Value.nilFunc]⟩ := AE.TypeOK.of (Go.Proofs.Tryd.isAgg196) Go.Proofs.Tryd.type196 rfl rfl rfl rfl rfl rfl (fun h => rfl)
theorem ty197 : AE.TypeOK Go.Proofs.Tryd.prog 197 ⟨.other, 1, 8, [Go.Value.nilFunc]⟩ := AE.TypeOK.of (Go.Proofs.Tryd.isAgg197) Go.Proofs.Tryd.type197 rfl rfl rfl rfl rfl rfl (fun h => rfl)
theorem ty198 : AE.TypeOK Go.Proofs.Tryd.prog 198 ⟨.other, 1, 8, [Go.Value.nilFunc]⟩ := AE.TypeOK.of (Go.Proofs.Tryd.isAgg198) Go.Proofs.Tryd.type198 rfl rfl rfl rfl rfl rfl (fun h => rfl)
theorem ty199 : AE.TypeOK Go.Proofs.Tryd.prog 199 ⟨.other, 1, 8, [Go.Value.nilFunc]⟩ := AE.TypeOK.of (Go.Proofs.Tryd.isAgg199) Go.Proofs.Tryd.type199 rfl rfl rfl rfl rfl rfl (fun h => rfl)
theorem ty200 : AE.TypeOK Go.Proofs.Tryd.prog 200 ⟨.other, 1, 8, [Go.Value.nilFunc]⟩ := AE.TypeOK.of (Go.Proofs.Tryd.isAgg200) Go.Proofs.Tryd.type200 rfl rfl rfl rfl rfl rfl (fun h => rfl)
theorem ty201 : AE.TypeOK Go.Proofs.Tryd.prog 201 ⟨.other, 1, 8, [Go.Value.nilFunc]⟩ := AE.TypeOK.of (Go.Proofs.Tryd.isAgg201) Go.Proofs.Tryd.type201 rfl rfl rfl rfl rfl rfl (fun h => rfl)
theorem ty203 : AE.TypeOK Go.Proofs.Tryd.prog 203 ⟨.struct [(0, 1, false), (1, 1, false)] (some [5, 5]), 2, 2, [Go.Value.int Go.IntKind.u8 0, Go.Value.int Go.IntKind.u8 0]⟩ := AE.TypeOK.of (AE.KindOK.structEq Go.Proofs.Tryd.underlying203 ⟨⟨rfl, AE.size_of Go.Proofs.Tryd.type5 rfl, Go.Proofs.Tryd.isAgg5, fun _ => rfl⟩, ⟨rfl, AE.size_of Go.Proofs.Tryd.type5 rfl, Go.Proofs.Tryd.isAgg5, fun _ => rfl⟩, trivial⟩ (by kernel_rfl) (by kernel_rfl) ⟨⟨rfl, by decide⟩, ⟨rfl, by decide⟩, trivial⟩) Go.Proofs.Tryd.type203 rfl rfl rfl rfl rfl rfl (fun h => by cases h)
theorem ty204 : AE.TypeOK Go.Proofs.Tryd.prog 204 ⟨.struct [(0, 1, false), (1, 1, false)] (some [5, 5]), 2, 2, [Go.Value.int Go.IntKind.u8 0, Go.Value.int Go.IntKind.u8 0]⟩ := AE.TypeOK.of (AE.KindOK.structEq Go.Proofs.Tryd.underlying204 ⟨⟨rfl, AE.size_of Go.Proofs.Tryd.type5 rfl, Go.Proofs.Tryd.isAgg5, fun _ => rfl⟩, ⟨rfl, AE.size_of Go.Proofs.Tryd.type5 rfl, Go.Proofs.Tryd.isAgg5, fun _ => rfl⟩, trivial⟩ (by kernel_rfl) (by kernel_rfl) ⟨⟨rfl, by decide⟩, ⟨rfl, by decide⟩, trivial⟩) Go.Proofs.Tryd.type204 rfl rfl rfl rfl rfl rfl (fun h => by cases h)
theorem ty205 : AE.TypeOK Go.Proofs.Tryd.prog 205 ⟨.array 16 204, 32, 32, [Go.Value.int Go.IntKind.u8 0, Go.Value.int Go.IntKind.u8 0, Go.Value.int Go.IntKind.u8 0, Go.Value.int Go.IntKind.u8 0,
  Go.Value.int Go.IntKind.u8 0, Go.Value.int Go.IntKind.u8 0, Go.Value.int Go.IntKind.u8 0,
  Go.Value.int Go.IntKind.u8 0, Go.Value.int Go.IntKind.u8 0, Go.Value.int Go.IntKind.u8 0,
  Go.Value.int Go.IntKind.u8 0, Go.Value.int Go.IntKind.u8 0, Go.Value.int Go.IntKind.u8 0,
  Go.Value.int Go.IntKind.u8 0, Go.Value.int Go.IntKind.u8 0, Go.Value.int Go.IntKind.u8 0,
  Go.Value.int Go.IntKind.u8 0, Go.Value.int Go.IntKind.u8 0, Go.Value.int Go.IntKind.u8 0,
  Go.Value.int Go.IntKind.u8 0, Go.Value.int Go.IntKind.u8 0, Go.Value.int Go.IntKind.u8 0,
  Go.Value.int Go.IntKind.u8 0, Go.Value.int Go.IntKind.u8 0, Go.Value.int Go.IntKind.u8 0,
  Go.Value.int Go.IntKind.u8 0, Go.Value.int Go.IntKind.u8 0, Go.Value.int Go.IntKind.u8 0,
  Go.Value.int Go.IntKind.u8 0, Go.Value.int Go.IntKind.u8 0, Go.Value.int Go.IntKind.u8 0,
  Go.Value.int Go.IntKind.u8 0]⟩ := AE.TypeOK.of (Go.Proofs.Tryd.underlying205) Go.Proofs.Tryd.type205 rfl rfl rfl rfl rfl rfl (fun h => by cases h)
theorem ty206 : AE.TypeOK Go.Proofs.Tryd.prog 206 ⟨.other, 1, 8, [Go.Value.nilFunc]⟩ := AE.TypeOK.of (Go.Proofs.Tryd.isAgg206) Go.Proofs.Tryd.type206 rfl rfl rfl rfl rfl rfl (fun h => rfl)
theorem ty208 : AE.TypeOK Go.Proofs.Tryd.prog 208 ⟨.other, 1, 8, [Go.Value.nilFunc]⟩ := AE.TypeOK.of (Go.Proofs.Tryd.isAgg208) Go.Proofs.Tryd.type208 rfl rfl rfl rfl rfl rfl (fun h => rfl)
theorem ty209 : AE.TypeOK Go.Proofs.Tryd.prog 209 ⟨.array 32 5, 32, 32, [Go.Value.int Go.IntKind.u8 0, Go.Value.int Go.IntKind.u8 0, Go.Value.int Go.IntKind.u8 0, Go.Value.int Go.IntKind.u8 0,
  Go.Value.int Go.IntKind.u8 0, Go.Value.int Go.IntKind.u8 0, Go.Value.int Go.IntKind.u8 0,
  Go.Value.int Go.IntKind.u8 0, Go.Value.int Go.IntKind.u8 0, Go.Value.int Go.IntKind.u8 0,
  Go.Value.int Go.IntKind.u8 0, Go.Value.int Go.IntKind.u8 0, Go.Value.int Go.IntKind.u8 0,
  Go.Value.int Go.IntKind.u8 0, Go.Value.int Go.IntKind.u8 0, Go.Value.int Go.IntKind.u8 0,
  Go.Value.int Go.IntKind.u8 0, Go.Value.int Go.IntKind.u8 0, Go.Value.int Go.IntKind.u8 0,
  Go.Value.int Go.IntKind.u8 0, Go.Value.int Go.IntKind.u8 0, Go.Value.int Go.IntKind.u8 0,
  Go.Value.int Go.IntKind.u8 0, Go.Value.int Go.IntKind.u8 0, Go.Value.int Go.IntKind.u8 0,
  Go.Value.int Go.IntKind.u8 0, Go.Value.int Go.IntKind.u8 0, Go.Value.int Go.IntKind.u8 0,
  Go.Value.int Go.IntKind.u8 0, Go.Value.int Go.IntKind.u8 0, Go.Value.int Go.IntKind.u8 0,
  Go.Value.int Go.IntKind.u8 0]⟩ := AE.TypeOK.of (Go.Proofs.Tryd.underlying209) Go.Proofs.Tryd.type209 rfl rfl rfl rfl rfl rfl (fun h => by cases h)
theorem ty210 : AE.TypeOK Go.Proofs.Tryd.prog 210 ⟨.array 64 5, 64, 64, [Go.Value.int Go.IntKind.u8 0, Go.Value.int Go.IntKind.u8 0, Go.Value.int Go.IntKind.u8 0, Go.Value.int Go.IntKind.u8 0,
  Go.Value.int Go.IntKind.u8 0, Go.Value.int Go.IntKind.u8 0, Go.Value.int Go.IntKind.u8 0,
  Go.Value.int Go.IntKind.u8 0, Go.Value.int Go.IntKind.u8 0, Go.Value.int Go.IntKind.u8 0,
  Go.Value.int Go.IntKind.u8 0, Go.Value.int Go.IntKind.u8 0, Go.Value.int Go.IntKind.u8 0,
  Go.Value.int Go.IntKind.u8 0, Go.Value.int Go.IntKind.u8 0, Go.Value.int Go.IntKind.u8 0,
  Go.Value.int Go.IntKind.u8 0, Go.Value.int Go.IntKind.u8 0, Go.Value.int Go.IntKind.u8 0,
  Go.Value.int Go.IntKind.u8 0, Go.Value.int Go.IntKind.u8 0, Go.Value.int Go.IntKind.u8 0,
  Go.Value.int Go.IntKind.u8 0, Go.Value.int Go.IntKind.u8 0, Go.Value.int Go.IntKind.u8 0,
  Go.Value.int Go.IntKind.u8 0, Go.Value.int Go.IntKind.u8 0, Go.Value.int Go.IntKind.u8 0,
  Go.Value.int Go.IntKind.u8 0, Go.Value.int Go.IntKind.u8 0, Go.Value.int Go.IntKind.u8 0,
  Go.Value.int Go.IntKind.u8 0, Go.Value.int Go.IntKind.u8 0, Go.Value.int Go.IntKind.u8 0,
  Go.Value.int Go.IntKind.u8 0, Go.Value.int Go.IntKind.u8 0, Go.Value.int Go.IntKind.u8 0,
  Go.Value.int Go.IntKind.u8 0, Go.Value.int Go.IntKind.u8 0, Go.Value.int Go.IntKind.u8 0,
  Go.Value.int Go.IntKind.u8 0, Go.Value.int Go.IntKind.u8 0, Go.Value.int Go.IntKind.u8 0,
  Go.Value.int Go.IntKind.u8 0, Go.Value.int Go.IntKind.u8 0, Go.Value.int Go.IntKind.u8 0,
  Go.Value.int Go.IntKind.u8 0, Go.Value.int Go.IntKind.u8 0, Go.Value.int Go.IntKind.u8 0,
  Go.Value.int Go.IntKind.u8 0, Go.Value.int Go.IntKind.u8 0, Go.Value.int Go.IntKind.u8 0,
  Go.Value.int Go.IntKind.u8 0, Go.Value.int Go.IntKind.u8 0, Go.Value.int Go.IntKind.u8 0,
  Go.Value.int Go.IntKind.u8 0, Go.Value.int Go.IntKind.u8 0, Go.Value.int Go.IntKind.u8 0,
  Go.Value.int Go.IntKind.u8 0, Go.Value.int Go.IntKind.u8 0, Go.Value.int Go.IntKind.u8 0,
  Go.Value.int Go.IntKind.u8 0, Go.Value.int Go.IntKind.u8 0, Go.Value.int Go.IntKind.u8 0]⟩ := AE.TypeOK.of (Go.Proofs.Tryd.underlying210) Go.Proofs.Tryd.type210 rfl rfl rfl rfl rfl rfl (fun h => by cases h)
theorem ty211 : AE.TypeOK Go.Proofs.Tryd.prog 211 ⟨.struct [(0, 1, false), (1, 1, false), (2, 1, false), (3, 1, false)] none, 4, 40, [Go.Value.pointer none, Go.Value.pointer none, Go.Value.pointer none, Go.Value.string { data := #[] }]⟩ := AE.TypeOK.of (AE.KindOK.struct Go.Proofs.Tryd.underlying211 ⟨⟨rfl, AE.size_of Go.Proofs.Tryd.type17 rfl, Go.Proofs.Tryd.isAgg17, fun _ => rfl⟩, ⟨rfl, AE.size_of Go.Proofs.Tryd.type17 rfl, Go.Proofs.Tryd.isAgg17, fun _ => rfl⟩, ⟨rfl, AE.size_of Go.Proofs.Tryd.type17 rfl, Go.Proofs.Tryd.isAgg17, fun _ => rfl⟩, ⟨rfl, AE.size_of Go.Proofs.Tryd.type9 rfl, Go.Proofs.Tryd.isAgg9, fun _ => rfl⟩, trivial⟩) Go.Proofs.Tryd.type211 rfl rfl rfl rfl rfl rfl (fun h => by cases h)
theorem ty212 : AE.TypeOK Go.Proofs.Tryd.prog 212 ⟨.struct [(0, 1, false), (1, 1, false), (2, 1, false), (3, 1, false)] none, 4, 40, [Go.Value.pointer none, Go.Value.pointer none, Go.Value.pointer none, Go.Value.string { data := #[] }]⟩ := AE.TypeOK.of (AE.KindOK.struct Go.Proofs.Tryd.underlying212 ⟨⟨rfl, AE.size_of Go.Proofs.Tryd.type17 rfl, Go.Proofs.Tryd.isAgg17, fun _ => rfl⟩, ⟨rfl, AE.size_of Go.Proofs.Tryd.type17 rfl, Go.Proofs.Tryd.isAgg17, fun _ => rfl⟩, ⟨rfl, AE.size_of Go.Proofs.Tryd.type17 rfl, Go.Proofs.Tryd.isAgg17, fun _ => rfl⟩, ⟨rfl, AE.size_of Go.Proofs.Tryd.type9 rfl, Go.Proofs.Tryd.isAgg9, fun _ => rfl⟩, trivial⟩) Go.Proofs.Tryd.type212 rfl rfl rfl rfl rfl rfl (fun h => by cases h)
theorem ty213 : AE.TypeOK Go.Proofs.Tryd.prog 213 ⟨.array 0 16, 0, 0, []⟩ := AE.TypeOK.of (Go.Proofs.Tryd.underlying213) Go.Proofs.Tryd.type213 rfl rfl rfl rfl rfl rfl (fun h => by cases h)
theorem ty214 : AE.TypeOK Go.Proofs.Tryd.prog 214 ⟨.struct [(0, 0, true)] none, 0, 0, []⟩ := AE.TypeOK.of (AE.KindOK.struct Go.Proofs.Tryd.underlying214 ⟨⟨rfl, AE.size_of Go.Proofs.Tryd.type213 rfl, Go.Proofs.Tryd.isAgg213, fun h => by cases h⟩, trivial⟩) Go.Proofs.Tryd.type214 rfl rfl rfl rfl rfl rfl (fun h => by cases h)
theorem ty215 : AE.TypeOK Go.Proofs.Tryd.prog 215 ⟨.struct [(0, 0, true)] none, 0, 0, []⟩ := AE.TypeOK.of (AE.KindOK.struct Go.Proofs.Tryd.underlying215 ⟨⟨rfl, AE.size_of Go.Proofs.Tryd.type213 rfl, Go.Proofs.Tryd.isAgg213, fun h => by cases h⟩, trivial⟩) Go.Proofs.Tryd.type215 rfl rfl rfl rfl rfl rfl (fun h => by cases h)
theorem ty216 : AE.TypeOK Go.Proofs.Tryd.prog 216 ⟨.other, 1, 8, [Go.Value.nilFunc]⟩ := AE.TypeOK.of (Go.Proofs.Tryd.isAgg216) Go.Proofs.Tryd.type216 rfl rfl rfl rfl rfl rfl (fun h => rfl)
theorem ty217 : AE.TypeOK Go.Proofs.Tryd.prog 217 ⟨.int Go.IntKind.u8, 1, 1, [Go.Value.int Go.IntKind.u8 0]⟩ := AE.TypeOK.of (Go.Proofs.Tryd.underlying217) Go.Proofs.Tryd.type217 rfl rfl rfl rfl rfl rfl (fun h => rfl)
theorem ty218 : AE.TypeOK Go.Proofs.Tryd.prog 218 ⟨.int Go.IntKind.u8, 1, 1, [Go.Value.int Go.IntKind.u8 0]⟩ := AE.TypeOK.of (Go.Proofs.Tryd.underlying218) Go.Proofs.Tryd.type218 rfl rfl rfl rfl rfl rfl (fun h => rfl)
theorem ty219 : AE.TypeOK Go.Proofs.Tryd.prog 219 ⟨.other, 1, 8, [Go.Value.nilFunc]⟩ := AE.TypeOK.of (Go.Proofs.Tryd.isAgg219) Go.Proofs.Tryd.type219 rfl rfl rfl rfl rfl rfl (fun h => rfl)
theorem ty220 : AE.TypeOK Go.Proofs.Tryd.prog 220 ⟨.int Go.IntKind.i32, 1, 4, [Go.Value.int Go.IntKind.i32 0]⟩ := AE.TypeOK.of (Go.Proofs.Tryd.underlying220) Go.Proofs.Tryd.type220 rfl rfl rfl rfl rfl rfl (fun h => rfl)
theorem ty221 : AE.TypeOK Go.Proofs.Tryd.prog 221 ⟨.int Go.IntKind.i32, 1, 4, [Go.Value.int Go.IntKind.i32 0]⟩ := AE.TypeOK.of (Go.Proofs.Tryd.underlying221) Go.Proofs.Tryd.type221 rfl rfl rfl rfl rfl rfl (fun h => rfl)
theorem ty222 : AE.TypeOK Go.Proofs.Tryd.prog 222 ⟨.struct [(0, 1, false), (1, 1, false), (2, 1, false), (3, 1, false), (4, 1, false), (5, 1, false), (6, 1, false), (7, 1, false), (8, 1, false), (9, 1, false), (10, 1, false)] none, 11, 48, [Go.Value.int Go.IntKind.u64 0, Go.Value.int Go.IntKind.u64 0, Go.Value.int Go.IntKind.u32 0,
  Go.Value.int Go.IntKind.u8 0, Go.Value.int Go.IntKind.u8 0, Go.Value.int Go.IntKind.u8 0,
  Go.Value.int Go.IntKind.u8 0, Go.Value.nilFunc, Go.Value.pointer none, Go.Value.int Go.IntKind.i32 0,
  Go.Value.int Go.IntKind.i32 0]⟩ := AE.TypeOK.of (AE.KindOK.struct Go.Proofs.Tryd.underlying222 ⟨⟨rfl, AE.size_of Go.Proofs.Tryd.type12 rfl, Go.Proofs.Tryd.isAgg12, fun _ => rfl⟩, ⟨rfl, AE.size_of Go.Proofs.Tryd.type12 rfl, Go.Proofs.Tryd.isAgg12, fun _ => rfl⟩, ⟨rfl, AE.size_of Go.Proofs.Tryd.type155 rfl, Go.Proofs.Tryd.isAgg155, fun _ => rfl⟩, ⟨rfl, AE.size_of Go.Proofs.Tryd.type217 rfl, Go.Proofs.Tryd.isAgg217, fun _ => rfl⟩, ⟨rfl, AE.size_of Go.Proofs.Tryd.type5 rfl, Go.Proofs.Tryd.isAgg5, fun _ => rfl⟩, ⟨rfl, AE.size_of Go.Proofs.Tryd.type5 rfl, Go.Proofs.Tryd.isAgg5, fun _ => rfl⟩, ⟨rfl, AE.size_of Go.Proofs.Tryd.type218 rfl, Go.Proofs.Tryd.isAgg218, fun _ => rfl⟩, ⟨rfl, AE.size_of Go.Proofs.Tryd.type219 rfl, Go.Proofs.Tryd.isAgg219, fun _ => rfl⟩, ⟨rfl, AE.size_of Go.Proofs.Tryd.type127 rfl, Go.Proofs.Tryd.isAgg127, fun _ => rfl⟩, ⟨rfl, AE.size_of Go.Proofs.Tryd.type220 rfl, Go.Proofs.Tryd.isAgg220, fun _ => rfl⟩, ⟨rfl, AE.size_of Go.Proofs.Tryd.type221 rfl, Go.Proofs.Tryd.isAgg221, fun _ => rfl⟩, trivial⟩) Go.Proofs.Tryd.type222 rfl rfl rfl rfl rfl rfl (fun h => by cases h)
theorem ty223 : AE.TypeOK Go.Proofs.Tryd.prog 223 ⟨.struct [(0, 1, false), (1, 1, false), (2, 1, false), (3, 1, false), (4, 1, false), (5, 1, false), (6, 1, false), (7, 1, false), (8, 1, false), (9, 1, false), (10, 1, false)] none, 11, 48, [Go.Value.int Go.IntKind.u64 0, Go.Value.int Go.IntKind.u64 0, Go.Value.int Go.IntKind.u32 0,
  Go.Value.int Go.IntKind.u8 0, Go.Value.int Go.IntKind.u8 0, Go.Value.int Go.IntKind.u8 0,
  Go.Value.int Go.IntKind.u8 0, Go.Value.nilFunc, Go.Value.pointer none, Go.Value.int Go.IntKind.i32 0,
  Go.Value.int Go.IntKind.i32 0]⟩ := AE.TypeOK.of (AE.KindOK.struct Go.Proofs.Tryd.underlying223 ⟨⟨rfl, AE.size_of Go.Proofs.Tryd.type12 rfl, Go.Proofs.Tryd.isAgg12, fun _ => rfl⟩, ⟨rfl, AE.size_of Go.Proofs.Tryd.type12 rfl, Go.Proofs.Tryd.isAgg12, fun _ => rfl⟩, ⟨rfl, AE.size_of Go.Proofs.Tryd.type155 rfl, Go.Proofs.Tryd.isAgg155, fun _ => rfl⟩, ⟨rfl, AE.size_of Go.Proofs.Tryd.type217 rfl, Go.Proofs.Tryd.isAgg217, fun _ => rfl⟩, ⟨rfl, AE.size_of Go.Proofs.Tryd.type5 rfl, Go.Proofs.Tryd.isAgg5, fun _ => rfl⟩, ⟨rfl, AE.size_of Go.Proofs.Tryd.type5 rfl, Go.Proofs.Tryd.isAgg5, fun _ => rfl⟩, ⟨rfl, AE.size_of Go.Proofs.Tryd.type218 rfl, Go.Proofs.Tryd.isAgg218, fun _ => rfl⟩, ⟨rfl, AE.size_of Go.Proofs.Tryd.type219 rfl, Go.Proofs.Tryd.isAgg219, fun _ => rfl⟩, ⟨rfl, AE.size_of Go.Proofs.Tryd.type127 rfl, Go.Proofs.Tryd.isAgg127, fun _ => rfl⟩, ⟨rfl, AE.size_of Go.Proofs.Tryd.type220 rfl, Go.Proofs.Tryd.isAgg220, fun _ => rfl⟩, ⟨rfl, AE.size_of Go.Proofs.Tryd.type221 rfl, Go.Proofs.Tryd.isAgg221, fun _ => rfl⟩, trivial⟩) Go.Proofs.Tryd.type223 rfl rfl rfl rfl rfl rfl (fun h => by cases h)
def Tab : AE.Tab := [
  (1, ⟨.other, 1, 8, [Go.Value.nilFunc]⟩),
  (2, ⟨.int Go.IntKind.i64, 1, 8, [Go.Value.int Go.IntKind.i64 0]⟩),
  (3, ⟨.int Go.IntKind.i64, 1, 8, [Go.Value.int Go.IntKind.i64 0]⟩),
  (4, ⟨.bool, 1, 1, [Go.Value.bool false]⟩),
  (5, ⟨.int Go.IntKind.u8, 1, 1, [Go.Value.int Go.IntKind.u8 0]⟩),
  (6, ⟨.int Go.IntKind.u8, 1, 1, [Go.Value.int Go.IntKind.u8 0]⟩),
  (7, ⟨.struct [(0, 1, false), (1, 1, false), (2, 1, false), (3, 1, false)] (some [2, 3, 4, 6]), 4, 24, [Go.Value.int Go.IntKind.i64 0, Go.Value.int Go.IntKind.i64 0, Go.Value.bool false, Go.Value.int Go.IntKind.u8 0]⟩),
  (8, ⟨.struct [(0, 1, false), (1, 1, false), (2, 1, false), (3, 1, false)] (some [2, 3, 4, 6]), 4, 24, [Go.Value.int Go.IntKind.i64 0, Go.Value.int Go.IntKind.i64 0, Go.Value.bool false, Go.Value.int Go.IntKind.u8 0]⟩),
  (9, ⟨.str, 1, 16, [Go.Value.string { data := #[] }]⟩),
  (10, ⟨.str, 1, 16, [Go.Value.string { data := #[] }]⟩),
  (11, ⟨.str, 1, 16, [Go.Value.string { data := #[] }]⟩),
  (12, ⟨.int Go.IntKind.u64, 1, 8, [Go.Value.int Go.IntKind.u64 0]⟩),
  (13, ⟨.struct [(0, 1, false), (1, 1, false)] none, 2, 24, [Go.Value.string { data := #[] }, Go.Value.int Go.IntKind.u64 0]⟩),
  (14, ⟨.struct [(0, 1, false), (1, 1, false)] none, 2, 24, [Go.Value.string { data := #[] }, Go.Value.int Go.IntKind.u64 0]⟩),
  (15, ⟨.ptr 212, 1, 8, [Go.Value.pointer none]⟩),
  (16, ⟨.ptr 215, 1, 8, [Go.Value.pointer none]⟩),
  (17, ⟨.ptr 223, 1, 8, [Go.Value.pointer none]⟩),
  (18, ⟨.struct [(0, 1, false)] none, 1, 8, [Go.Value.pointer none]⟩),
  (19, ⟨.struct [(0, 1, false)] none, 1, 8, [Go.Value.pointer none]⟩),
  (20, ⟨.iface, 1, 16, [Go.Value.nilIface]⟩),
  (21, ⟨.int Go.IntKind.i32, 1, 4, [Go.Value.int Go.IntKind.i32 0]⟩),
  (22, ⟨.slice 28, 1, 24, [Go.Value.slice none 0 0]⟩),
  (23, ⟨.other, 1, 8, [Go.Value.nilFunc]⟩),
  (24, ⟨.int Go.IntKind.i64, 1, 8, [Go.Value.int Go.IntKind.i64 0]⟩),
  (25, ⟨.other, 1, 8, [Go.Value.nilFunc]⟩),
  (26, ⟨.other, 1, 8, [Go.Value.nilFunc]⟩),
  (27, ⟨.struct [(0, 1, false), (1, 1, false), (2, 1, false)] (some [3, 3, 3]), 3, 24, [Go.Value.int Go.IntKind.i64 0, Go.Value.int Go.IntKind.i64 0, Go.Value.int Go.IntKind.i64 0]⟩),
  (28, ⟨.struct [(0, 1, false), (1, 1, false), (2, 1, false)] (some [3, 3, 3]), 3, 24, [Go.Value.int Go.IntKind.i64 0, Go.Value.int Go.IntKind.i64 0, Go.Value.int Go.IntKind.i64 0]⟩),
  (29, ⟨.other, 1, 8, [Go.Value.nilFunc]⟩),
  (30, ⟨.other, 1, 8, [Go.Value.nilFunc]⟩),
  (31, ⟨.other, 1, 8, [Go.Value.nilFunc]⟩),
  (32, ⟨.other, 1, 8, [Go.Value.nilFunc]⟩),
  (33, ⟨.slice 3, 1, 24, [Go.Value.slice none 0 0]⟩),
  (34, ⟨.other, 1, 8, [Go.Value.nilFunc]⟩),
  (35, ⟨.other, 1, 8, [Go.Value.nilFunc]⟩),
  (36, ⟨.other, 1, 8, [Go.Value.nilFunc]⟩),
  (37, ⟨.other, 1, 8, [Go.Value.nilFunc]⟩),
  (38, ⟨.other, 1, 8, [Go.Value.nilFunc]⟩),
  (39, ⟨.slice 89, 1, 24, [Go.Value.slice none 0 0]⟩),
  (40, ⟨.slice 89, 1, 24, [Go.Value.slice none 0 0]⟩),
  (42, ⟨.other, 1, 8, [Go.Value.nilFunc]⟩),
  (43, ⟨.other, 1, 8, [Go.Value.nilFunc]⟩),
  (44, ⟨.struct [(0, 1, false), (1, 1, false), (2, 1, false)] (some [4, 9, 9]), 3, 40, [Go.Value.bool false, Go.Value.string { data := #[] }, Go.Value.string { data := #[] }]⟩),
  (45, ⟨.struct [(0, 1, false), (1, 1, false), (2, 1, false)] (some [4, 9, 9]), 3, 40, [Go.Value.bool false, Go.Value.string { data := #[] }, Go.Value.string { data := #[] }]⟩),
  (46, ⟨.struct [(0, 3, true), (3, 3, true)] (some [45, 45]), 6, 80, [Go.Value.bool false, Go.Value.string { data := #[] }, Go.Value.string { data := #[] }, Go.Value.bool false,
  Go.Value.string { data := #[] }, Go.Value.string { data := #[] }]⟩),
  (47, ⟨.struct [(0, 3, true), (3, 3, true)] (some [45, 45]), 6, 80, [Go.Value.bool false, Go.Value.string { data := #[] }, Go.Value.string { data := #[] }, Go.Value.bool false,
  Go.Value.string { data := #[] }, Go.Value.string { data := #[] }]⟩),
  (48, ⟨.struct [(0, 1, false), (1, 3, true)] (some [4, 45]), 4, 48, [Go.Value.bool false, Go.Value.bool false, Go.Value.string { data := #[] }, Go.Value.string { data := #[] }]⟩),
  (49, ⟨.struct [(0, 1, false), (1, 3, true)] (some [4, 45]), 4, 48, [Go.Value.bool false, Go.Value.bool false, Go.Value.string { data := #[] }, Go.Value.string { data := #[] }]⟩),
  (50, ⟨.struct [(0, 6, true), (6, 4, true)] (some [47, 49]), 10, 128, [Go.Value.bool false, Go.Value.string { data := #[] }, Go.Value.string { data := #[] }, Go.Value.bool false,
  Go.Value.string { data := #[] }, Go.Value.string { data := #[] }, Go.Value.bool false, Go.Value.bool false,
  Go.Value.string { data := #[] }, Go.Value.string { data := #[] }]⟩),
  (51, ⟨.struct [(0, 6, true), (6, 4, true)] (some [47, 49]), 10, 128, [Go.Value.bool false, Go.Value.string { data := #[] }, Go.Value.string { data := #[] }, Go.Value.bool false,
  Go.Value.string { data := #[] }, Go.Value.string { data := #[] }, Go.Value.bool false, Go.Value.bool false,
  Go.Value.string { data := #[] }, Go.Value.string { data := #[] }]⟩),
  (52, ⟨.slice 118, 1, 24, [Go.Value.slice none 0 0]⟩),
  (53, ⟨.struct [(0, 1, false), (1, 10, true), (11, 1, false)] none, 12, 168, [Go.Value.string { data := #[] }, Go.Value.bool false, Go.Value.string { data := #[] }, Go.Value.string { data := #[] },
  Go.Value.bool false, Go.Value.string { data := #[] }, Go.Value.string { data := #[] }, Go.Value.bool false,
  Go.Value.bool false, Go.Value.string { data := #[] }, Go.Value.string { data := #[] }, Go.Value.slice none 0 0]⟩),
  (54, ⟨.struct [(0, 1, false), (1, 10, true), (11, 1, false)] none, 12, 168, [Go.Value.string { data := #[] }, Go.Value.bool false, Go.Value.string { data := #[] }, Go.Value.string { data := #[] },
  Go.Value.bool false, Go.Value.string { data := #[] }, Go.Value.string { data := #[] }, Go.Value.bool false,
  Go.Value.bool false, Go.Value.string { data := #[] }, Go.Value.string { data := #[] }, Go.Value.slice none 0 0]⟩),
  (55, ⟨.slice 33, 1, 24, [Go.Value.slice none 0 0]⟩),
  (56, ⟨.other, 1, 8, [Go.Value.nilFunc]⟩),
  (57, ⟨.other, 1, 8, [Go.Value.nilFunc]⟩),
  (58, ⟨.other, 1, 8, [Go.Value.nilFunc]⟩),
  (59, ⟨.other, 1, 8, [Go.Value.nilFunc]⟩),
  (60, ⟨.other, 1, 8, [Go.Value.nilFunc]⟩),
  (61, ⟨.other, 1, 8, [Go.Value.nilFunc]⟩),
  (62, ⟨.slice 66, 1, 24, [Go.Value.slice none 0 0]⟩),
  (63, ⟨.other, 1, 8, [Go.Value.nilFunc]⟩),
  (64, ⟨.other, 1, 8, [Go.Value.nilFunc]⟩),
  (65, ⟨.other, 1, 8, [Go.Value.nilFunc]⟩),
  (66, ⟨.slice 45, 1, 24, [Go.Value.slice none 0 0]⟩),
  (67, ⟨.other, 1, 8, [Go.Value.nilFunc]⟩),
  (68, ⟨.other, 1, 8, [Go.Value.nilFunc]⟩),
  (69, ⟨.other, 1, 8, [Go.Value.nilFunc]⟩),
  (70, ⟨.other, 1, 8, [Go.Value.nilFunc]⟩),
  (71, ⟨.other, 1, 8, [Go.Value.nilFunc]⟩),
  (72, ⟨.other, 1, 8, [Go.Value.nilFunc]⟩),
  (74, ⟨.other, 1, 8, [Go.Value.nilFunc]⟩),
  (75, ⟨.other, 1, 8, [Go.Value.nilFunc]⟩),
  (77, ⟨.other, 1, 8, [Go.Value.nilFunc]⟩),
  (79, ⟨.other, 1, 8, [Go.Value.nilFunc]⟩),
  (80, ⟨.other, 1, 8, [Go.Value.nilFunc]⟩),
  (81, ⟨.other, 1, 8, [Go.Value.nilFunc]⟩),
  (82, ⟨.map 3 4, 1, 8, [Go.Value.map none]⟩),
  (83, ⟨.slice 9, 1, 24, [Go.Value.slice none 0 0]⟩),
  (84, ⟨.other, 1, 8, [Go.Value.nilFunc]⟩),
  (85, ⟨.other, 1, 8, [Go.Value.nilFunc]⟩),
  (86, ⟨.other, 1, 8, [Go.Value.nilFunc]⟩),
  (87, ⟨.other, 1, 8, [Go.Value.nilFunc]⟩),
  (88, ⟨.struct [(0, 1, false), (1, 1, false)] none, 2, 32, [Go.Value.int Go.IntKind.i64 0, Go.Value.slice none 0 0]⟩),
  (89, ⟨.struct [(0, 1, false), (1, 1, false)] none, 2, 32, [Go.Value.int Go.IntKind.i64 0, Go.Value.slice none 0 0]⟩),
  (90, ⟨.other, 1, 8, [Go.Value.nilFunc]⟩),
  (91, ⟨.other, 1, 8, [Go.Value.nilFunc]⟩),
  (92, ⟨.other, 1, 8, [Go.Value.nilFunc]⟩),
  (93, ⟨.other, 1, 8, [Go.Value.nilFunc]⟩),
  (94, ⟨.ptr 97, 1, 8, [Go.Value.pointer none]⟩),
  (95, ⟨.slice 5, 1, 24, [Go.Value.slice none 0 0]⟩),
  (96, ⟨.struct [(0, 1, false), (1, 1, false)] none, 2, 32, [Go.Value.pointer none, Go.Value.slice none 0 0]⟩),
  (97, ⟨.struct [(0, 1, false), (1, 1, false)] none, 2, 32, [Go.Value.pointer none, Go.Value.slice none 0 0]⟩),
  (98, ⟨.iface, 1, 16, [Go.Value.nilIface]⟩),
  (99, ⟨.iface, 1, 16, [Go.Value.nilIface]⟩),
  (101, ⟨.other, 1, 8, [Go.Value.nilFunc]⟩),
  (102, ⟨.other, 1, 8, [Go.Value.nilFunc]⟩),
  (103, ⟨.other, 1, 8, [Go.Value.nilFunc]⟩),
  (105, ⟨.other, 1, 8, [Go.Value.nilFunc]⟩),
  (106, ⟨.other, 1, 8, [Go.Value.nilFunc]⟩),
  (108, ⟨.other, 1, 8, [Go.Value.nilFunc]⟩),
  (109, ⟨.other, 1, 8, [Go.Value.nilFunc]⟩),
  (110, ⟨.other, 1, 8, [Go.Value.nilFunc]⟩),
  (111, ⟨.other, 1, 8, [Go.Value.nilFunc]⟩),
  (112, ⟨.slice 22, 1, 24, [Go.Value.slice none 0 0]⟩),
  (113, ⟨.other, 1, 8, [Go.Value.nilFunc]⟩),
  (114, ⟨.other, 1, 8, [Go.Value.nilFunc]⟩),
  (115, ⟨.other, 1, 8, [Go.Value.nilFunc]⟩),
  (116, ⟨.slice 47, 1, 24, [Go.Value.slice none 0 0]⟩),
  (117, ⟨.struct [(0, 3, true), (3, 3, true), (6, 3, true), (9, 3, true), (12, 3, true), (15, 1, false)] none, 16, 224, [Go.Value.bool false, Go.Value.string { data := #[] }, Go.Value.string { data := #[] }, Go.Value.bool false,
  Go.Value.string { data := #[] }, Go.Value.string { data := #[] }, Go.Value.bool false,
  Go.Value.string { data := #[] }, Go.Value.string { data := #[] }, Go.Value.bool false,
  Go.Value.string { data := #[] }, Go.Value.string { data := #[] }, Go.Value.bool false,
  Go.Value.string { data := #[] }, Go.Value.string { data := #[] }, Go.Value.slice none 0 0]⟩),
  (118, ⟨.struct [(0, 3, true), (3, 3, true), (6, 3, true), (9, 3, true), (12, 3, true), (15, 1, false)] none, 16, 224, [Go.Value.bool false, Go.Value.string { data := #[] }, Go.Value.string { data := #[] }, Go.Value.bool false,
  Go.Value.string { data := #[] }, Go.Value.string { data := #[] }, Go.Value.bool false,
  Go.Value.string { data := #[] }, Go.Value.string { data := #[] }, Go.Value.bool false,
  Go.Value.string { data := #[] }, Go.Value.string { data := #[] }, Go.Value.bool false,
  Go.Value.string { data := #[] }, Go.Value.string { data := #[] }, Go.Value.slice none 0 0]⟩),
  (119, ⟨.other, 1, 8, [Go.Value.nilFunc]⟩),
  (120, ⟨.other, 1, 8, [Go.Value.nilFunc]⟩),
  (121, ⟨.other, 1, 8, [Go.Value.nilFunc]⟩),
  (122, ⟨.other, 1, 8, [Go.Value.nilFunc]⟩),
  (123, ⟨.other, 1, 8, [Go.Value.nilFunc]⟩),
  (124, ⟨.other, 1, 8, [Go.Value.nilFunc]⟩),
  (126, ⟨.other, 1, 8, [Go.Value.nilFunc]⟩),
  (127, ⟨.ptr 5, 1, 8, [Go.Value.pointer none]⟩),
  (128, ⟨.other, 1, 8, [Go.Value.nilFunc]⟩),
  (129, ⟨.other, 1, 8, [Go.Value.nilFunc]⟩),
  (130, ⟨.other, 1, 8, [Go.Value.nilFunc]⟩),
  (131, ⟨.other, 1, 8, [Go.Value.nilFunc]⟩),
  (132, ⟨.other, 1, 8, [Go.Value.nilFunc]⟩),
  (133, ⟨.other, 1, 8, [Go.Value.nilFunc]⟩),
  (134, ⟨.other, 1, 8, [Go.Value.nilFunc]⟩),
  (136, ⟨.other, 1, 8, [Go.Value.nilFunc]⟩),
  (137, ⟨.other, 1, 8, [Go.Value.pointer none]⟩),
  (138, ⟨.other, 1, 8, [Go.Value.nilFunc]⟩),
  (139, ⟨.other, 1, 8, [Go.Value.nilFunc]⟩),
  (140, ⟨.other, 1, 8, [Go.Value.nilFunc]⟩),
  (141, ⟨.int Go.IntKind.i64, 1, 8, [Go.Value.int Go.IntKind.i64 0]⟩),
  (143, ⟨.other, 1, 8, [Go.Value.nilFunc]⟩),
  (144, ⟨.ptr 173, 1, 8, [Go.Value.pointer none]⟩),
  (145, ⟨.other, 1, 8, [Go.Value.nilFunc]⟩),
  (146, ⟨.other, 1, 8, [Go.Value.nilFunc]⟩),
  (147, ⟨.other, 1, 8, [Go.Value.nilFunc]⟩),
  (148, ⟨.other, 1, 8, [Go.Value.nilFunc]⟩),
  (149, ⟨.other, 1, 8, [Go.Value.nilFunc]⟩),
  (150, ⟨.other, 1, 8, [Go.Value.nilFunc]⟩),
  (151, ⟨.int Go.IntKind.u64, 1, 8, [Go.Value.int Go.IntKind.u64 0]⟩),
  (152, ⟨.other, 1, 8, [Go.Value.nilFunc]⟩),
  (153, ⟨.slice 155, 1, 24, [Go.Value.slice none 0 0]⟩),
  (154, ⟨.other, 1, 8, [Go.Value.nilFunc]⟩),
  (155, ⟨.int Go.IntKind.u32, 1, 4, [Go.Value.int Go.IntKind.u32 0]⟩),
  (156, ⟨.int Go.IntKind.u64, 1, 8, [Go.Value.int Go.IntKind.u64 0]⟩),
  (157, ⟨.other, 1, 8, [Go.Value.nilFunc]⟩),
  (159, ⟨.other, 1, 8, [Go.Value.nilFunc]⟩),
  (160, ⟨.other, 1, 8, [Go.Value.nilFunc]⟩),
  (161, ⟨.array 24 5, 24, 24, [Go.Value.int Go.IntKind.u8 0, Go.Value.int Go.IntKind.u8 0, Go.Value.int Go.IntKind.u8 0, Go.Value.int Go.IntKind.u8 0,
  Go.Value.int Go.IntKind.u8 0, Go.Value.int Go.IntKind.u8 0, Go.Value.int Go.IntKind.u8 0,
  Go.Value.int Go.IntKind.u8 0, Go.Value.int Go.IntKind.u8 0, Go.Value.int Go.IntKind.u8 0,
  Go.Value.int Go.IntKind.u8 0, Go.Value.int Go.IntKind.u8 0, Go.Value.int Go.IntKind.u8 0,
  Go.Value.int Go.IntKind.u8 0, Go.Value.int Go.IntKind.u8 0, Go.Value.int Go.IntKind.u8 0,
  Go.Value.int Go.IntKind.u8 0, Go.Value.int Go.IntKind.u8 0, Go.Value.int Go.IntKind.u8 0,
  Go.Value.int Go.IntKind.u8 0, Go.Value.int Go.IntKind.u8 0, Go.Value.int Go.IntKind.u8 0,
  Go.Value.int Go.IntKind.u8 0, Go.Value.int Go.IntKind.u8 0]⟩),
  (162, ⟨.other, 1, 8, [Go.Value.nilFunc]⟩),
  (163, ⟨.other, 1, 8, [Go.Value.nilFunc]⟩),
  (165, ⟨.other, 1, 8, [Go.Value.nilFunc]⟩),
  (166, ⟨.other, 1, 8, [Go.Value.nilFunc]⟩),
  (167, ⟨.other, 1, 8, [Go.Value.nilFunc]⟩),
  (169, ⟨.other, 1, 8, [Go.Value.nilFunc]⟩),
  (171, ⟨.other, 1, 8, [Go.Value.nilFunc]⟩),
  (172, ⟨.struct [(0, 1, false), (1, 1, false), (2, 1, false)] none, 3, 48, [Go.Value.string { data := #[] }, Go.Value.string { data := #[] }, Go.Value.nilIface]⟩),
  (173, ⟨.struct [(0, 1, false), (1, 1, false), (2, 1, false)] none, 3, 48, [Go.Value.string { data := #[] }, Go.Value.string { data := #[] }, Go.Value.nilIface]⟩),
  (174, ⟨.other, 1, 8, [Go.Value.nilFunc]⟩),
  (175, ⟨.other, 1, 8, [Go.Value.nilFunc]⟩),
  (176, ⟨.array 8 5, 8, 8, [Go.Value.int Go.IntKind.u8 0, Go.Value.int Go.IntKind.u8 0, Go.Value.int Go.IntKind.u8 0, Go.Value.int Go.IntKind.u8 0,
  Go.Value.int Go.IntKind.u8 0, Go.Value.int Go.IntKind.u8 0, Go.Value.int Go.IntKind.u8 0,
  Go.Value.int Go.IntKind.u8 0]⟩),
  (177, ⟨.other, 1, 8, [Go.Value.nilFunc]⟩),
  (179, ⟨.other, 1, 8, [Go.Value.nilFunc]⟩),
  (180, ⟨.other, 1, 8, [Go.Value.nilFunc]⟩),
  (181, ⟨.other, 1, 8, [Go.Value.nilFunc]⟩),
  (182, ⟨.array 20 151, 20, 160, [Go.Value.int Go.IntKind.u64 0, Go.Value.int Go.IntKind.u64 0, Go.Value.int Go.IntKind.u64 0,
  Go.Value.int Go.IntKind.u64 0, Go.Value.int Go.IntKind.u64 0, Go.Value.int Go.IntKind.u64 0,
  Go.Value.int Go.IntKind.u64 0, Go.Value.int Go.IntKind.u64 0, Go.Value.int Go.IntKind.u64 0,
  Go.Value.int Go.IntKind.u64 0, Go.Value.int Go.IntKind.u64 0, Go.Value.int Go.IntKind.u64 0,
  Go.Value.int Go.IntKind.u64 0, Go.Value.int Go.IntKind.u64 0, Go.Value.int Go.IntKind.u64 0,
  Go.Value.int Go.IntKind.u64 0, Go.Value.int Go.IntKind.u64 0, Go.Value.int Go.IntKind.u64 0,
  Go.Value.int Go.IntKind.u64 0, Go.Value.int Go.IntKind.u64 0]⟩),
  (184, ⟨.other, 1, 8, [Go.Value.nilFunc]⟩),
  (186, ⟨.other, 1, 8, [Go.Value.nilFunc]⟩),
  (187, ⟨.other, 1, 8, [Go.Value.nilFunc]⟩),
  (188, ⟨.ptr 190, 1, 8, [Go.Value.pointer none]⟩),
  (189, ⟨.struct [(0, 1, false)] (some [9]), 1, 16, [Go.Value.string { data := #[] }]⟩),
  (190, ⟨.struct [(0, 1, false)] (some [9]), 1, 16, [Go.Value.string { data := #[] }]⟩),
  (191, ⟨.other, 1, 8, [Go.Value.nilFunc]⟩),
  (192, ⟨.other, 1, 8, [Go.Value.nilFunc]⟩),
  (193, ⟨.slice 151, 1, 24, [Go.Value.slice none 0 0]⟩),
  (194, ⟨.other, 1, 8, [Go.Value.nilFunc]⟩),
  (195, ⟨.other, 1, 8, [Go.Value.nilFunc]⟩),
  (196, ⟨.other, 1, 8, [Go.Value.nilFunc]⟩),
  (197, ⟨.other, 1, 8, [Go.Value.nilFunc]⟩),
  (198, ⟨.other, 1, 8, [Go.Value.nilFunc]⟩),
  (199, ⟨.other, 1, 8, [Go.Value.nilFunc]⟩),
  (200, ⟨.other, 1, 8, [Go.Value.nilFunc]⟩),
  (201, ⟨.other, 1, 8, [Go.Value.nilFunc]⟩),
  (203, ⟨.struct [(0, 1, false), (1, 1, false)] (some [5, 5]), 2, 2, [Go.Value.int Go.IntKind.u8 0, Go.Value.int Go.IntKind.u8 0]⟩),
  (204, ⟨.struct [(0, 1, false), (1, 1, false)] (some [5, 5]), 2, 2, [Go.Value.int Go.IntKind.u8 0, Go.Value.int Go.IntKind.u8 0]⟩),
  (205, ⟨.array 16 204, 32, 32, [Go.Value.int Go.IntKind.u8 0, Go.Value.int Go.IntKind.u8 0, Go.Value.int Go.IntKind.u8 0, Go.Value.int Go.IntKind.u8 0,
  Go.Value.int Go.IntKind.u8 0, Go.Value.int Go.IntKind.u8 0, Go.Value.int Go.IntKind.u8 0,
  Go.Value.int Go.IntKind.u8 0, Go.Value.int Go.IntKind.u8 0, Go.Value.int Go.IntKind.u8 0,
  Go.Value.int Go.IntKind.u8 0, Go.Value.int Go.IntKind.u8 0, Go.Value.int Go.IntKind.u8 0,
  Go.Value.int Go.IntKind.u8 0, Go.Value.int Go.IntKind.u8 0, Go.Value.int Go.IntKind.u8 0,
  Go.Value.int Go.IntKind.u8 0, Go.Value.int Go.IntKind.u8 0, Go.Value.int Go.IntKind.u8 0,
  Go.Value.int Go.IntKind.u8 0, Go.Value.int Go.IntKind.u8 0, Go.Value.int Go.IntKind.u8 0,
  Go.Value.int Go.IntKind.u8 0, Go.Value.int Go.IntKind.u8 0, Go.Value.int Go.IntKind.u8 0,
  Go.Value.int Go.IntKind.u8 0, Go.Value.int Go.IntKind.u8 0, Go.Value.int Go.IntKind.u8 0,
  Go.Value.int Go.IntKind.u8 0, Go.Value.int Go.IntKind.u8 0, Go.Value.int Go.IntKind.u8 0,
  Go.Value.int Go.IntKind.u8 0]⟩),
  (206, ⟨.other, 1, 8, [Go.Value.nilFunc]⟩),
  (208, ⟨.other, 1, 8, [Go.Value.nilFunc]⟩),
  (209, ⟨.array 32 5, 32, 32, [Go.Value.int Go.IntKind.u8 0, Go.Value.int Go.IntKind.u8 0, Go.Value.int Go.IntKind.u8 0, Go.Value.int Go.IntKind.u8 0,
  Go.Value.int Go.IntKind.u8 0, Go.Value.int Go.IntKind.u8 0, Go.Value.int Go.IntKind.u8 0,
  Go.Value.int Go.IntKind.u8 0, Go.Value.int Go.IntKind.u8 0, Go.Value.int Go.IntKind.u8 0,
  Go.Value.int Go.IntKind.u8 0, Go.Value.int Go.IntKind.u8 0, Go.Value.int Go.IntKind.u8 0,
  Go.Value.int Go.IntKind.u8 0, Go.Value.int Go.IntKind.u8 0, Go.Value.int Go.IntKind.u8 0,
  Go.Value.int Go.IntKind.u8 0, Go.Value.int Go.IntKind.u8 0, Go.Value.int Go.IntKind.u8 0,
  Go.Value.int Go.IntKind.u8 0, Go.Value.int Go.IntKind.u8 0, Go.Value.int Go.IntKind.u8 0,
  Go.Value.int Go.IntKind.u8 0, Go.Value.int Go.IntKind.u8 0, Go.Value.int Go.IntKind.u8 0,
  Go.Value.int Go.IntKind.u8 0, Go.Value.int Go.IntKind.u8 0, Go.Value.int Go.IntKind.u8 0,
  Go.Value.int Go.IntKind.u8 0, Go.Value.int Go.IntKind.u8 0, Go.Value.int Go.IntKind.u8 0,
  Go.Value.int Go.IntKind.u8 0]⟩),
  (210, ⟨.array 64 5, 64, 64, [Go.Value.int Go.IntKind.u8 0, Go.Value.int Go.IntKind.u8 0, Go.Value.int Go.IntKind.u8 0, Go.Value.int Go.IntKind.u8 0,
  Go.Value.int Go.IntKind.u8 0, Go.Value.int Go.IntKind.u8 0, Go.Value.int Go.IntKind.u8 0,
  Go.Value.int Go.IntKind.u8 0, Go.Value.int Go.IntKind.u8 0, Go.Value.int Go.IntKind.u8 0,
  Go.Value.int Go.IntKind.u8 0, Go.Value.int Go.IntKind.u8 0, Go.Value.int Go.IntKind.u8 0,
  Go.Value.int Go.IntKind.u8 0, Go.Value.int Go.IntKind.u8 0, Go.Value.int Go.IntKind.u8 0,
  Go.Value.int Go.IntKind.u8 0, Go.Value.int Go.IntKind.u8 0, Go.Value.int Go.IntKind.u8 0,
  Go.Value.int Go.IntKind.u8 0, Go.Value.int Go.IntKind.u8 0, Go.Value.int Go.IntKind.u8 0,
  Go.Value.int Go.IntKind.u8 0, Go.Value.int Go.IntKind.u8 0, Go.Value.int Go.IntKind.u8 0,
  Go.Value.int Go.IntKind.u8 0, Go.Value.int Go.IntKind.u8 0, Go.Value.int Go.IntKind.u8 0,
  Go.Value.int Go.IntKind.u8 0, Go.Value.int Go.IntKind.u8 0, Go.Value.int Go.IntKind.u8 0,
  Go.Value.int Go.IntKind.u8 0, Go.Value.int Go.IntKind.u8 0, Go.Value.int Go.IntKind.u8 0,
  Go.Value.int Go.IntKind.u8 0, Go.Value.int Go.IntKind.u8 0, Go.Value.int Go.IntKind.u8 0,
  Go.Value.int Go.IntKind.u8 0, Go.Value.int Go.IntKind.u8 0, Go.Value.int Go.IntKind.u8 0,
  Go.Value.int Go.IntKind.u8 0, Go.Value.int Go.IntKind.u8 0, Go.Value.int Go.IntKind.u8 0,
  Go.Value.int Go.IntKind.u8 0, Go.Value.int Go.IntKind.u8 0, Go.Value.int Go.IntKind.u8 0,
  Go.Value.int Go.IntKind.u8 0, Go.Value.int Go.IntKind.u8 0, Go.Value.int Go.IntKind.u8 0,
  Go.Value.int Go.IntKind.u8 0, Go.Value.int Go.IntKind.u8 0, Go.Value.int Go.IntKind.u8 0,
  Go.Value.int Go.IntKind.u8 0, Go.Value.int Go.IntKind.u8 0, Go.Value.int Go.IntKind.u8 0,
  Go.Value.int Go.IntKind.u8 0, Go.Value.int Go.IntKind.u8 0, Go.Value.int Go.IntKind.u8 0,
  Go.Value.int Go.IntKind.u8 0, Go.Value.int Go.IntKind.u8 0, Go.Value.int Go.IntKind.u8 0,
  Go.Value.int Go.IntKind.u8 0, Go.Value.int Go.IntKind.u8 0, Go.Value.int Go.IntKind.u8 0]⟩),
  (211, ⟨.struct [(0, 1, false), (1, 1, false), (2, 1, false), (3, 1, false)] none, 4, 40, [Go.Value.pointer none, Go.Value.pointer none, Go.Value.pointer none, Go.Value.string { data := #[] }]⟩),
  (212, ⟨.struct [(0, 1, false), (1, 1, false), (2, 1, false), (3, 1, false)] none, 4, 40, [Go.Value.pointer none, Go.Value.pointer none, Go.Value.pointer none, Go.Value.string { data := #[] }]⟩),
  (213, ⟨.array 0 16, 0, 0, []⟩),
  (214, ⟨.struct [(0, 0, true)] none, 0, 0, []⟩),
  (215, ⟨.struct [(0, 0, true)] none, 0, 0, []⟩),
  (216, ⟨.other, 1, 8, [Go.Value.nilFunc]⟩),
  (217, ⟨.int Go.IntKind.u8, 1, 1, [Go.Value.int Go.IntKind.u8 0]⟩),
  (218, ⟨.int Go.IntKind.u8, 1, 1, [Go.Value.int Go.IntKind.u8 0]⟩),
  (219, ⟨.other, 1, 8, [Go.Value.nilFunc]⟩),
  (220, ⟨.int Go.IntKind.i32, 1, 4, [Go.Value.int Go.IntKind.i32 0]⟩),
  (221, ⟨.int Go.IntKind.i32, 1, 4, [Go.Value.int Go.IntKind.i32 0]⟩),
  (222, ⟨.struct [(0, 1, false), (1, 1, false), (2, 1, false), (3, 1, false), (4, 1, false), (5, 1, false), (6, 1, false), (7, 1, false), (8, 1, false), (9, 1, false), (10, 1, false)] none, 11, 48, [Go.Value.int Go.IntKind.u64 0, Go.Value.int Go.IntKind.u64 0, Go.Value.int Go.IntKind.u32 0,
  Go.Value.int Go.IntKind.u8 0, Go.Value.int Go.IntKind.u8 0, Go.Value.int Go.IntKind.u8 0,
  Go.Value.int Go.IntKind.u8 0, Go.Value.nilFunc, Go.Value.pointer none, Go.Value.int Go.IntKind.i32 0,
  Go.Value.int Go.IntKind.i32 0]⟩),
  (223, ⟨.struct [(0, 1, false), (1, 1, false), (2, 1, false), (3, 1, false), (4, 1, false), (5, 1, false), (6, 1, false), (7, 1, false), (8, 1, false), (9, 1, false), (10, 1, false)] none, 11, 48, [Go.Value.int Go.IntKind.u64 0, Go.Value.int Go.IntKind.u64 0, Go.Value.int Go.IntKind.u32 0,
  Go.Value.int Go.IntKind.u8 0, Go.Value.int Go.IntKind.u8 0, Go.Value.int Go.IntKind.u8 0,
  Go.Value.int Go.IntKind.u8 0, Go.Value.nilFunc, Go.Value.pointer none, Go.Value.int Go.IntKind.i32 0,
  Go.Value.int Go.IntKind.i32 0]⟩)]
theorem tabOK : AE.TabOK Go.Proofs.Tryd.prog Tab :=
  AE.TabOK.cons ty1 <|
  AE.TabOK.cons ty2 <|
  AE.TabOK.cons ty3 <|
  AE.TabOK.cons ty4 <|
  AE.TabOK.cons ty5 <|
  AE.TabOK.cons ty6 <|
  AE.TabOK.cons ty7 <|
  AE.TabOK.cons ty8 <|
  AE.TabOK.cons ty9 <|
  AE.TabOK.cons ty10 <|
  AE.TabOK.cons ty11 <|
  AE.TabOK.cons ty12 <|
  AE.TabOK.cons ty13 <|
  AE.TabOK.cons ty14 <|
  AE.TabOK.cons ty15 <|
  AE.TabOK.cons ty16 <|
  AE.TabOK.cons ty17 <|
  AE.TabOK.cons ty18 <|
  AE.TabOK.cons ty19 <|
  AE.TabOK.cons ty20 <|
  AE.TabOK.cons ty21 <|
  AE.TabOK.cons ty22 <|
  AE.TabOK.cons ty23 <|
  AE.TabOK.cons ty24 <|
  AE.TabOK.cons ty25 <|
  AE.TabOK.cons ty26 <|
  AE.TabOK.cons ty27 <|
  AE.TabOK.cons ty28 <|
  AE.TabOK.cons ty29 <|
  AE.TabOK.cons ty30 <|
  AE.TabOK.cons ty31 <|
  AE.TabOK.cons ty32 <|
  AE.TabOK.cons ty33 <|
  AE.TabOK.cons ty34 <|
  AE.TabOK.cons ty35 <|
  AE.TabOK.cons ty36 <|
  AE.TabOK.cons ty37 <|
  AE.TabOK.cons ty38 <|
  AE.TabOK.cons ty39 <|
  AE.TabOK.cons ty40 <|
  AE.TabOK.cons ty42 <|
  AE.TabOK.cons ty43 <|
  AE.TabOK.cons ty44 <|
  AE.TabOK.cons ty45 <|
  AE.TabOK.cons ty46 <|
  AE.TabOK.cons ty47 <|
  AE.TabOK.cons ty48 <|
  AE.TabOK.cons ty49 <|
  AE.TabOK.cons ty50 <|
  AE.TabOK.cons ty51 <|
  AE.TabOK.cons ty52 <|
  AE.TabOK.cons ty53 <|
  AE.TabOK.cons ty54 <|
  AE.TabOK.cons ty55 <|
  AE.TabOK.cons ty56 <|
  AE.TabOK.cons ty57 <|
  AE.TabOK.cons ty58 <|
  AE.TabOK.cons ty59 <|
  AE.TabOK.cons ty60 <|
  AE.TabOK.cons ty61 <|
  AE.TabOK.cons ty62 <|
  AE.TabOK.cons ty63 <|
  AE.TabOK.cons ty64 <|
  AE.TabOK.cons ty65 <|
  AE.TabOK.cons ty66 <|
  AE.TabOK.cons ty67 <|
  AE.TabOK.cons ty68 <|
  AE.TabOK.cons ty69 <|
  AE.TabOK.cons ty70 <|
  AE.TabOK.cons ty71 <|
  AE.TabOK.cons ty72 <|
  AE.TabOK.cons ty74 <|
  AE.TabOK.cons ty75 <|
  AE.TabOK.cons ty77 <|
  AE.TabOK.cons ty79 <|
  AE.TabOK.cons ty80 <|
  AE.TabOK.cons ty81 <|
  AE.TabOK.cons ty82 <|
  AE.TabOK.cons ty83 <|
  AE.TabOK.cons ty84 <|
  AE.TabOK.cons ty85 <|
  AE.TabOK.cons ty86 <|
  AE.TabOK.cons ty87 <|
  AE.TabOK.cons ty88 <|
  AE.TabOK.cons ty89 <|
  AE.TabOK.cons ty90 <|
  AE.TabOK.cons ty91 <|
  AE.TabOK.cons ty92 <|
  AE.TabOK.cons ty93 <|
  AE.TabOK.cons ty94 <|
  AE.TabOK.cons ty95 <|
  AE.TabOK.cons ty96 <|
  AE.TabOK.cons ty97 <|
  AE.TabOK.cons ty98 <|
  AE.TabOK.cons ty99 <|
  AE.TabOK.cons ty101 <|
  AE.TabOK.cons ty102 <|
  AE.TabOK.cons ty103 <|
  AE.TabOK.cons ty105 <|
  AE.TabOK.cons ty106 <|
  AE.TabOK.cons ty108 <|
  AE.TabOK.cons ty109 <|
  AE.TabOK.cons ty110 <|
  AE.TabOK.cons ty111 <|
  AE.TabOK.cons ty112 <|
  AE.TabOK.cons ty113 <|
  AE.TabOK.cons ty114 <|
  AE.TabOK.cons ty115 <|
  AE.TabOK.cons ty116 <|
  AE.TabOK.cons ty117 <|
  AE.TabOK.cons ty118 <|
  AE.TabOK.cons ty119 <|
  AE.TabOK.cons ty120 <|
  AE.TabOK.cons ty121 <|
  AE.TabOK.cons ty122 <|
  AE.TabOK.cons ty123 <|
  AE.TabOK.cons ty124 <|
  AE.TabOK.cons ty126 <|
  AE.TabOK.cons ty127 <|
  AE.TabOK.cons ty128 <|
  AE.TabOK.cons ty129 <|
  AE.TabOK.cons ty130 <|
  AE.TabOK.cons ty131 <|
  AE.TabOK.cons ty132 <|
  AE.TabOK.cons ty133 <|
  AE.TabOK.cons ty134 <|
  AE.TabOK.cons ty136 <|
  AE.TabOK.cons ty137 <|
  AE.TabOK.cons ty138 <|
  AE.TabOK.cons ty139 <|
  AE.TabOK.cons ty140 <|
  AE.TabOK.cons ty141 <|
  AE.TabOK.cons ty143 <|
  AE.TabOK.cons ty144 <|
  AE.TabOK.cons ty145 <|
  AE.TabOK.cons ty146 <|
  AE.TabOK.cons ty147 <|
  AE.TabOK.cons ty148 <|
  AE.TabOK.cons ty149 <|
  AE.TabOK.cons ty150 <|
  AE.TabOK.cons ty151 <|
  AE.TabOK.cons ty152 <|
  AE.TabOK.cons ty153 <|
  AE.TabOK.cons ty154 <|
  AE.TabOK.cons ty155 <|
  AE.TabOK.cons ty156 <|
  AE.TabOK.cons ty157 <|
  AE.TabOK.cons ty159 <|
  AE.TabOK.cons ty160 <|
  AE.TabOK.cons ty161 <|
  AE.TabOK.cons ty162 <|
  AE.TabOK.cons ty163 <|
  AE.TabOK.cons ty165 <|
  AE.TabOK.cons ty166 <|
  AE.TabOK.cons ty167 <|
  AE.TabOK.cons ty169 <|
  AE.TabOK.cons ty171 <|
  AE.TabOK.cons ty172 <|
  AE.TabOK.cons ty173 <|
  AE.TabOK.cons ty174 <|
  AE.TabOK.cons ty175 <|
  AE.TabOK.cons ty176 <|
  AE.TabOK.cons ty177 <|
  AE.TabOK.cons ty179 <|
  AE.TabOK.cons ty180 <|
  AE.TabOK.cons ty181 <|
  AE.TabOK.cons ty182 <|
  AE.TabOK.cons ty184 <|
  AE.TabOK.cons ty186 <|
  AE.TabOK.cons ty187 <|
  AE.TabOK.cons ty188 <|
  AE.TabOK.cons ty189 <|
  AE.TabOK.cons ty190 <|
  AE.TabOK.cons ty191 <|
  AE.TabOK.cons ty192 <|
  AE.TabOK.cons ty193 <|
  AE.TabOK.cons ty194 <|
  AE.TabOK.cons ty195 <|
  AE.TabOK.cons ty196 <|
  AE.TabOK.cons ty197 <|
  AE.TabOK.cons ty198 <|
  AE.TabOK.cons ty199 <|
  AE.TabOK.cons ty200 <|
  AE.TabOK.cons ty201 <|
  AE.TabOK.cons ty203 <|
  AE.TabOK.cons ty204 <|
  AE.TabOK.cons ty205 <|
  AE.TabOK.cons ty206 <|
  AE.TabOK.cons ty208 <|
  AE.TabOK.cons ty209 <|
  AE.TabOK.cons ty210 <|
  AE.TabOK.cons ty211 <|
  AE.TabOK.cons ty212 <|
  AE.TabOK.cons ty213 <|
  AE.TabOK.cons ty214 <|
  AE.TabOK.cons ty215 <|
  AE.TabOK.cons ty216 <|
  AE.TabOK.cons ty217 <|
  AE.TabOK.cons ty218 <|
  AE.TabOK.cons ty219 <|
  AE.TabOK.cons ty220 <|
  AE.TabOK.cons ty221 <|
  AE.TabOK.cons ty222 <|
  AE.TabOK.cons ty223 <|
  AE.TabOK.nil
end Go.Proofs.YtjbnffclpebkkaaDoor
