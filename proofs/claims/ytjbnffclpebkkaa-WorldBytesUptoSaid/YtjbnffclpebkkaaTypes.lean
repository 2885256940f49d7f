/- The table of types of this seat's program: written by tools/gentab.sh. -/
import Derived.Test.YtjbnffclpebkkaaRows
import Derived.Test.YtjbnffclpebkkaaAE11
set_option linter.unusedVariables false
namespace Go.Proofs.Ytjbnffclpebkkaa
open Go
theorem ty1 : AE.TypeOK Go.Proofs.Try.prog 1 ⟨.other, 1, 8, [Go.Value.nilFunc]⟩ := AE.TypeOK.of (Go.Proofs.Try.isAgg1) Go.Proofs.Try.type1 rfl rfl rfl rfl rfl rfl (fun h => rfl)
theorem ty2 : AE.TypeOK Go.Proofs.Try.prog 2 ⟨.int Go.IntKind.i64, 1, 8, [Go.Value.int Go.IntKind.i64 0]⟩ := AE.TypeOK.of (Go.Proofs.Try.underlying2) Go.Proofs.Try.type2 rfl rfl rfl rfl rfl rfl (fun h => rfl)
theorem ty3 : AE.TypeOK Go.Proofs.Try.prog 3 ⟨.int Go.IntKind.i64, 1, 8, [Go.Value.int Go.IntKind.i64 0]⟩ := AE.TypeOK.of (Go.Proofs.Try.underlying3) Go.Proofs.Try.type3 rfl rfl rfl rfl rfl rfl (fun h => rfl)
theorem ty4 : AE.TypeOK Go.Proofs.Try.prog 4 ⟨.bool, 1, 1, [Go.Value.bool false]⟩ := AE.TypeOK.of (Go.Proofs.Try.underlying4) Go.Proofs.Try.type4 rfl rfl rfl rfl rfl rfl (fun h => rfl)
theorem ty5 : AE.TypeOK Go.Proofs.Try.prog 5 ⟨.int Go.IntKind.u8, 1, 1, [Go.Value.int Go.IntKind.u8 0]⟩ := AE.TypeOK.of (Go.Proofs.Try.underlying5) Go.Proofs.Try.type5 rfl rfl rfl rfl rfl rfl (fun h => rfl)
theorem ty6 : AE.TypeOK Go.Proofs.Try.prog 6 ⟨.int Go.IntKind.u8, 1, 1, [Go.Value.int Go.IntKind.u8 0]⟩ := AE.TypeOK.of (Go.Proofs.Try.underlying6) Go.Proofs.Try.type6 rfl rfl rfl rfl rfl rfl (fun h => rfl)
theorem ty7 : AE.TypeOK Go.Proofs.Try.prog 7 ⟨.struct [(0, 1, false), (1, 1, false), (2, 1, false), (3, 1, false)], 4, 24, [Go.Value.int Go.IntKind.i64 0, Go.Value.int Go.IntKind.i64 0, Go.Value.bool false, Go.Value.int Go.IntKind.u8 0]⟩ := AE.TypeOK.of (AE.KindOK.struct Go.Proofs.Try.underlying7 ⟨⟨rfl, rfl, Go.Proofs.Try.isAgg2, fun _ => rfl⟩, ⟨rfl, rfl, Go.Proofs.Try.isAgg3, fun _ => rfl⟩, ⟨rfl, rfl, Go.Proofs.Try.isAgg4, fun _ => rfl⟩, ⟨rfl, rfl, Go.Proofs.Try.isAgg6, fun _ => rfl⟩, trivial⟩) Go.Proofs.Try.type7 rfl rfl rfl rfl rfl rfl (fun h => by cases h)
theorem ty8 : AE.TypeOK Go.Proofs.Try.prog 8 ⟨.struct [(0, 1, false), (1, 1, false), (2, 1, false), (3, 1, false)], 4, 24, [Go.Value.int Go.IntKind.i64 0, Go.Value.int Go.IntKind.i64 0, Go.Value.bool false, Go.Value.int Go.IntKind.u8 0]⟩ := AE.TypeOK.of (AE.KindOK.struct Go.Proofs.Try.underlying8 ⟨⟨rfl, rfl, Go.Proofs.Try.isAgg2, fun _ => rfl⟩, ⟨rfl, rfl, Go.Proofs.Try.isAgg3, fun _ => rfl⟩, ⟨rfl, rfl, Go.Proofs.Try.isAgg4, fun _ => rfl⟩, ⟨rfl, rfl, Go.Proofs.Try.isAgg6, fun _ => rfl⟩, trivial⟩) Go.Proofs.Try.type8 rfl rfl rfl rfl rfl rfl (fun h => by cases h)
theorem ty9 : AE.TypeOK Go.Proofs.Try.prog 9 ⟨.str, 1, 16, [Go.Value.string { data := #[] }]⟩ := AE.TypeOK.of (Go.Proofs.Try.underlying9) Go.Proofs.Try.type9 rfl rfl rfl rfl rfl rfl (fun h => rfl)
theorem ty10 : AE.TypeOK Go.Proofs.Try.prog 10 ⟨.str, 1, 16, [Go.Value.string { data := #[] }]⟩ := AE.TypeOK.of (Go.Proofs.Try.underlying10) Go.Proofs.Try.type10 rfl rfl rfl rfl rfl rfl (fun h => rfl)
theorem ty11 : AE.TypeOK Go.Proofs.Try.prog 11 ⟨.str, 1, 16, [Go.Value.string { data := #[] }]⟩ := AE.TypeOK.of (Go.Proofs.Try.underlying11) Go.Proofs.Try.type11 rfl rfl rfl rfl rfl rfl (fun h => rfl)
theorem ty12 : AE.TypeOK Go.Proofs.Try.prog 12 ⟨.int Go.IntKind.u64, 1, 8, [Go.Value.int Go.IntKind.u64 0]⟩ := AE.TypeOK.of (Go.Proofs.Try.underlying12) Go.Proofs.Try.type12 rfl rfl rfl rfl rfl rfl (fun h => rfl)
theorem ty13 : AE.TypeOK Go.Proofs.Try.prog 13 ⟨.struct [(0, 1, false), (1, 1, false)], 2, 24, [Go.Value.string { data := #[] }, Go.Value.int Go.IntKind.u64 0]⟩ := AE.TypeOK.of (AE.KindOK.struct Go.Proofs.Try.underlying13 ⟨⟨rfl, rfl, Go.Proofs.Try.isAgg9, fun _ => rfl⟩, ⟨rfl, rfl, Go.Proofs.Try.isAgg12, fun _ => rfl⟩, trivial⟩) Go.Proofs.Try.type13 rfl rfl rfl rfl rfl rfl (fun h => by cases h)
theorem ty14 : AE.TypeOK Go.Proofs.Try.prog 14 ⟨.struct [(0, 1, false), (1, 1, false)], 2, 24, [Go.Value.string { data := #[] }, Go.Value.int Go.IntKind.u64 0]⟩ := AE.TypeOK.of (AE.KindOK.struct Go.Proofs.Try.underlying14 ⟨⟨rfl, rfl, Go.Proofs.Try.isAgg9, fun _ => rfl⟩, ⟨rfl, rfl, Go.Proofs.Try.isAgg12, fun _ => rfl⟩, trivial⟩) Go.Proofs.Try.type14 rfl rfl rfl rfl rfl rfl (fun h => by cases h)
theorem ty15 : AE.TypeOK Go.Proofs.Try.prog 15 ⟨.ptr 71, 1, 8, [Go.Value.pointer none]⟩ := AE.TypeOK.of (Go.Proofs.Try.underlying15) Go.Proofs.Try.type15 rfl rfl rfl rfl rfl rfl (fun h => rfl)
theorem ty16 : AE.TypeOK Go.Proofs.Try.prog 16 ⟨.ptr 74, 1, 8, [Go.Value.pointer none]⟩ := AE.TypeOK.of (Go.Proofs.Try.underlying16) Go.Proofs.Try.type16 rfl rfl rfl rfl rfl rfl (fun h => rfl)
theorem ty17 : AE.TypeOK Go.Proofs.Try.prog 17 ⟨.ptr 84, 1, 8, [Go.Value.pointer none]⟩ := AE.TypeOK.of (Go.Proofs.Try.underlying17) Go.Proofs.Try.type17 rfl rfl rfl rfl rfl rfl (fun h => rfl)
theorem ty18 : AE.TypeOK Go.Proofs.Try.prog 18 ⟨.struct [(0, 1, false)], 1, 8, [Go.Value.pointer none]⟩ := AE.TypeOK.of (AE.KindOK.struct Go.Proofs.Try.underlying18 ⟨⟨rfl, rfl, Go.Proofs.Try.isAgg17, fun _ => rfl⟩, trivial⟩) Go.Proofs.Try.type18 rfl rfl rfl rfl rfl rfl (fun h => by cases h)
theorem ty19 : AE.TypeOK Go.Proofs.Try.prog 19 ⟨.struct [(0, 1, false)], 1, 8, [Go.Value.pointer none]⟩ := AE.TypeOK.of (AE.KindOK.struct Go.Proofs.Try.underlying19 ⟨⟨rfl, rfl, Go.Proofs.Try.isAgg17, fun _ => rfl⟩, trivial⟩) Go.Proofs.Try.type19 rfl rfl rfl rfl rfl rfl (fun h => by cases h)
theorem ty20 : AE.TypeOK Go.Proofs.Try.prog 20 ⟨.other, 1, 16, [Go.Value.nilIface]⟩ := AE.TypeOK.of (Go.Proofs.Try.isAgg20) Go.Proofs.Try.type20 rfl rfl rfl rfl rfl rfl (fun h => rfl)
theorem ty21 : AE.TypeOK Go.Proofs.Try.prog 21 ⟨.int Go.IntKind.i32, 1, 4, [Go.Value.int Go.IntKind.i32 0]⟩ := AE.TypeOK.of (Go.Proofs.Try.underlying21) Go.Proofs.Try.type21 rfl rfl rfl rfl rfl rfl (fun h => rfl)
theorem ty22 : AE.TypeOK Go.Proofs.Try.prog 22 ⟨.slice 42, 1, 24, [Go.Value.slice none 0 0]⟩ := AE.TypeOK.of (Go.Proofs.Try.underlying22) Go.Proofs.Try.type22 rfl rfl rfl rfl rfl rfl (fun h => rfl)
theorem ty23 : AE.TypeOK Go.Proofs.Try.prog 23 ⟨.slice 52, 1, 24, [Go.Value.slice none 0 0]⟩ := AE.TypeOK.of (Go.Proofs.Try.underlying23) Go.Proofs.Try.type23 rfl rfl rfl rfl rfl rfl (fun h => rfl)
theorem ty24 : AE.TypeOK Go.Proofs.Try.prog 24 ⟨.slice 48, 1, 24, [Go.Value.slice none 0 0]⟩ := AE.TypeOK.of (Go.Proofs.Try.underlying24) Go.Proofs.Try.type24 rfl rfl rfl rfl rfl rfl (fun h => rfl)
theorem ty25 : AE.TypeOK Go.Proofs.Try.prog 25 ⟨.slice 4, 1, 24, [Go.Value.slice none 0 0]⟩ := AE.TypeOK.of (Go.Proofs.Try.underlying25) Go.Proofs.Try.type25 rfl rfl rfl rfl rfl rfl (fun h => rfl)
theorem ty26 : AE.TypeOK Go.Proofs.Try.prog 26 ⟨.struct [(0, 1, false), (1, 1, false), (2, 1, false), (3, 1, false), (4, 1, false)], 5, 104, [Go.Value.int Go.IntKind.i64 0, Go.Value.slice none 0 0, Go.Value.slice none 0 0, Go.Value.slice none 0 0,
  Go.Value.slice none 0 0]⟩ := AE.TypeOK.of (AE.KindOK.struct Go.Proofs.Try.underlying26 ⟨⟨rfl, rfl, Go.Proofs.Try.isAgg3, fun _ => rfl⟩, ⟨rfl, rfl, Go.Proofs.Try.isAgg22, fun _ => rfl⟩, ⟨rfl, rfl, Go.Proofs.Try.isAgg23, fun _ => rfl⟩, ⟨rfl, rfl, Go.Proofs.Try.isAgg24, fun _ => rfl⟩, ⟨rfl, rfl, Go.Proofs.Try.isAgg25, fun _ => rfl⟩, trivial⟩) Go.Proofs.Try.type26 rfl rfl rfl rfl rfl rfl (fun h => by cases h)
theorem ty27 : AE.TypeOK Go.Proofs.Try.prog 27 ⟨.struct [(0, 1, false), (1, 1, false), (2, 1, false), (3, 1, false), (4, 1, false)], 5, 104, [Go.Value.int Go.IntKind.i64 0, Go.Value.slice none 0 0, Go.Value.slice none 0 0, Go.Value.slice none 0 0,
  Go.Value.slice none 0 0]⟩ := AE.TypeOK.of (AE.KindOK.struct Go.Proofs.Try.underlying27 ⟨⟨rfl, rfl, Go.Proofs.Try.isAgg3, fun _ => rfl⟩, ⟨rfl, rfl, Go.Proofs.Try.isAgg22, fun _ => rfl⟩, ⟨rfl, rfl, Go.Proofs.Try.isAgg23, fun _ => rfl⟩, ⟨rfl, rfl, Go.Proofs.Try.isAgg24, fun _ => rfl⟩, ⟨rfl, rfl, Go.Proofs.Try.isAgg25, fun _ => rfl⟩, trivial⟩) Go.Proofs.Try.type27 rfl rfl rfl rfl rfl rfl (fun h => by cases h)
theorem ty28 : AE.TypeOK Go.Proofs.Try.prog 28 ⟨.slice 5, 1, 24, [Go.Value.slice none 0 0]⟩ := AE.TypeOK.of (Go.Proofs.Try.underlying28) Go.Proofs.Try.type28 rfl rfl rfl rfl rfl rfl (fun h => rfl)
theorem ty29 : AE.TypeOK Go.Proofs.Try.prog 29 ⟨.other, 1, 8, [Go.Value.nilFunc]⟩ := AE.TypeOK.of (Go.Proofs.Try.isAgg29) Go.Proofs.Try.type29 rfl rfl rfl rfl rfl rfl (fun h => rfl)
theorem ty30 : AE.TypeOK Go.Proofs.Try.prog 30 ⟨.other, 1, 8, [Go.Value.nilFunc]⟩ := AE.TypeOK.of (Go.Proofs.Try.isAgg30) Go.Proofs.Try.type30 rfl rfl rfl rfl rfl rfl (fun h => rfl)
theorem ty31 : AE.TypeOK Go.Proofs.Try.prog 31 ⟨.int Go.IntKind.u64, 1, 8, [Go.Value.int Go.IntKind.u64 0]⟩ := AE.TypeOK.of (Go.Proofs.Try.underlying31) Go.Proofs.Try.type31 rfl rfl rfl rfl rfl rfl (fun h => rfl)
theorem ty32 : AE.TypeOK Go.Proofs.Try.prog 32 ⟨.other, 1, 8, [Go.Value.nilFunc]⟩ := AE.TypeOK.of (Go.Proofs.Try.isAgg32) Go.Proofs.Try.type32 rfl rfl rfl rfl rfl rfl (fun h => rfl)
theorem ty33 : AE.TypeOK Go.Proofs.Try.prog 33 ⟨.other, 1, 8, [Go.Value.nilFunc]⟩ := AE.TypeOK.of (Go.Proofs.Try.isAgg33) Go.Proofs.Try.type33 rfl rfl rfl rfl rfl rfl (fun h => rfl)
theorem ty34 : AE.TypeOK Go.Proofs.Try.prog 34 ⟨.other, 1, 8, [Go.Value.nilFunc]⟩ := AE.TypeOK.of (Go.Proofs.Try.isAgg34) Go.Proofs.Try.type34 rfl rfl rfl rfl rfl rfl (fun h => rfl)
theorem ty35 : AE.TypeOK Go.Proofs.Try.prog 35 ⟨.other, 1, 8, [Go.Value.nilFunc]⟩ := AE.TypeOK.of (Go.Proofs.Try.isAgg35) Go.Proofs.Try.type35 rfl rfl rfl rfl rfl rfl (fun h => rfl)
theorem ty36 : AE.TypeOK Go.Proofs.Try.prog 36 ⟨.ptr 38, 1, 8, [Go.Value.pointer none]⟩ := AE.TypeOK.of (Go.Proofs.Try.underlying36) Go.Proofs.Try.type36 rfl rfl rfl rfl rfl rfl (fun h => rfl)
theorem ty37 : AE.TypeOK Go.Proofs.Try.prog 37 ⟨.struct [(0, 1, false)], 1, 24, [Go.Value.slice none 0 0]⟩ := AE.TypeOK.of (AE.KindOK.struct Go.Proofs.Try.underlying37 ⟨⟨rfl, rfl, Go.Proofs.Try.isAgg28, fun _ => rfl⟩, trivial⟩) Go.Proofs.Try.type37 rfl rfl rfl rfl rfl rfl (fun h => by cases h)
theorem ty38 : AE.TypeOK Go.Proofs.Try.prog 38 ⟨.struct [(0, 1, false)], 1, 24, [Go.Value.slice none 0 0]⟩ := AE.TypeOK.of (AE.KindOK.struct Go.Proofs.Try.underlying38 ⟨⟨rfl, rfl, Go.Proofs.Try.isAgg28, fun _ => rfl⟩, trivial⟩) Go.Proofs.Try.type38 rfl rfl rfl rfl rfl rfl (fun h => by cases h)
theorem ty39 : AE.TypeOK Go.Proofs.Try.prog 39 ⟨.other, 1, 8, [Go.Value.nilFunc]⟩ := AE.TypeOK.of (Go.Proofs.Try.isAgg39) Go.Proofs.Try.type39 rfl rfl rfl rfl rfl rfl (fun h => rfl)
theorem ty40 : AE.TypeOK Go.Proofs.Try.prog 40 ⟨.slice 46, 1, 24, [Go.Value.slice none 0 0]⟩ := AE.TypeOK.of (Go.Proofs.Try.underlying40) Go.Proofs.Try.type40 rfl rfl rfl rfl rfl rfl (fun h => rfl)
theorem ty41 : AE.TypeOK Go.Proofs.Try.prog 41 ⟨.struct [(0, 1, false), (1, 1, false), (2, 1, false), (3, 1, false)], 4, 64, [Go.Value.slice none 0 0, Go.Value.slice none 0 0, Go.Value.bool false, Go.Value.int Go.IntKind.i64 0]⟩ := AE.TypeOK.of (AE.KindOK.struct Go.Proofs.Try.underlying41 ⟨⟨rfl, rfl, Go.Proofs.Try.isAgg40, fun _ => rfl⟩, ⟨rfl, rfl, Go.Proofs.Try.isAgg40, fun _ => rfl⟩, ⟨rfl, rfl, Go.Proofs.Try.isAgg4, fun _ => rfl⟩, ⟨rfl, rfl, Go.Proofs.Try.isAgg3, fun _ => rfl⟩, trivial⟩) Go.Proofs.Try.type41 rfl rfl rfl rfl rfl rfl (fun h => by cases h)
theorem ty42 : AE.TypeOK Go.Proofs.Try.prog 42 ⟨.struct [(0, 1, false), (1, 1, false), (2, 1, false), (3, 1, false)], 4, 64, [Go.Value.slice none 0 0, Go.Value.slice none 0 0, Go.Value.bool false, Go.Value.int Go.IntKind.i64 0]⟩ := AE.TypeOK.of (AE.KindOK.struct Go.Proofs.Try.underlying42 ⟨⟨rfl, rfl, Go.Proofs.Try.isAgg40, fun _ => rfl⟩, ⟨rfl, rfl, Go.Proofs.Try.isAgg40, fun _ => rfl⟩, ⟨rfl, rfl, Go.Proofs.Try.isAgg4, fun _ => rfl⟩, ⟨rfl, rfl, Go.Proofs.Try.isAgg3, fun _ => rfl⟩, trivial⟩) Go.Proofs.Try.type42 rfl rfl rfl rfl rfl rfl (fun h => by cases h)
theorem ty43 : AE.TypeOK Go.Proofs.Try.prog 43 ⟨.other, 1, 8, [Go.Value.nilFunc]⟩ := AE.TypeOK.of (Go.Proofs.Try.isAgg43) Go.Proofs.Try.type43 rfl rfl rfl rfl rfl rfl (fun h => rfl)
theorem ty44 : AE.TypeOK Go.Proofs.Try.prog 44 ⟨.other, 1, 8, [Go.Value.nilFunc]⟩ := AE.TypeOK.of (Go.Proofs.Try.isAgg44) Go.Proofs.Try.type44 rfl rfl rfl rfl rfl rfl (fun h => rfl)
theorem ty45 : AE.TypeOK Go.Proofs.Try.prog 45 ⟨.struct [(0, 1, false), (1, 1, false), (2, 1, false)], 3, 40, [Go.Value.bool false, Go.Value.string { data := #[] }, Go.Value.string { data := #[] }]⟩ := AE.TypeOK.of (AE.KindOK.struct Go.Proofs.Try.underlying45 ⟨⟨rfl, rfl, Go.Proofs.Try.isAgg4, fun _ => rfl⟩, ⟨rfl, rfl, Go.Proofs.Try.isAgg9, fun _ => rfl⟩, ⟨rfl, rfl, Go.Proofs.Try.isAgg9, fun _ => rfl⟩, trivial⟩) Go.Proofs.Try.type45 rfl rfl rfl rfl rfl rfl (fun h => by cases h)
theorem ty46 : AE.TypeOK Go.Proofs.Try.prog 46 ⟨.struct [(0, 1, false), (1, 1, false), (2, 1, false)], 3, 40, [Go.Value.bool false, Go.Value.string { data := #[] }, Go.Value.string { data := #[] }]⟩ := AE.TypeOK.of (AE.KindOK.struct Go.Proofs.Try.underlying46 ⟨⟨rfl, rfl, Go.Proofs.Try.isAgg4, fun _ => rfl⟩, ⟨rfl, rfl, Go.Proofs.Try.isAgg9, fun _ => rfl⟩, ⟨rfl, rfl, Go.Proofs.Try.isAgg9, fun _ => rfl⟩, trivial⟩) Go.Proofs.Try.type46 rfl rfl rfl rfl rfl rfl (fun h => by cases h)
theorem ty47 : AE.TypeOK Go.Proofs.Try.prog 47 ⟨.struct [(0, 3, true), (3, 3, true)], 6, 80, [Go.Value.bool false, Go.Value.string { data := #[] }, Go.Value.string { data := #[] }, Go.Value.bool false,
  Go.Value.string { data := #[] }, Go.Value.string { data := #[] }]⟩ := AE.TypeOK.of (AE.KindOK.struct Go.Proofs.Try.underlying47 ⟨⟨rfl, rfl, Go.Proofs.Try.isAgg46, fun h => by cases h⟩, ⟨rfl, rfl, Go.Proofs.Try.isAgg46, fun h => by cases h⟩, trivial⟩) Go.Proofs.Try.type47 rfl rfl rfl rfl rfl rfl (fun h => by cases h)
theorem ty48 : AE.TypeOK Go.Proofs.Try.prog 48 ⟨.struct [(0, 3, true), (3, 3, true)], 6, 80, [Go.Value.bool false, Go.Value.string { data := #[] }, Go.Value.string { data := #[] }, Go.Value.bool false,
  Go.Value.string { data := #[] }, Go.Value.string { data := #[] }]⟩ := AE.TypeOK.of (AE.KindOK.struct Go.Proofs.Try.underlying48 ⟨⟨rfl, rfl, Go.Proofs.Try.isAgg46, fun h => by cases h⟩, ⟨rfl, rfl, Go.Proofs.Try.isAgg46, fun h => by cases h⟩, trivial⟩) Go.Proofs.Try.type48 rfl rfl rfl rfl rfl rfl (fun h => by cases h)
theorem ty49 : AE.TypeOK Go.Proofs.Try.prog 49 ⟨.struct [(0, 1, false), (1, 3, true)], 4, 48, [Go.Value.bool false, Go.Value.bool false, Go.Value.string { data := #[] }, Go.Value.string { data := #[] }]⟩ := AE.TypeOK.of (AE.KindOK.struct Go.Proofs.Try.underlying49 ⟨⟨rfl, rfl, Go.Proofs.Try.isAgg4, fun _ => rfl⟩, ⟨rfl, rfl, Go.Proofs.Try.isAgg46, fun h => by cases h⟩, trivial⟩) Go.Proofs.Try.type49 rfl rfl rfl rfl rfl rfl (fun h => by cases h)
theorem ty50 : AE.TypeOK Go.Proofs.Try.prog 50 ⟨.struct [(0, 1, false), (1, 3, true)], 4, 48, [Go.Value.bool false, Go.Value.bool false, Go.Value.string { data := #[] }, Go.Value.string { data := #[] }]⟩ := AE.TypeOK.of (AE.KindOK.struct Go.Proofs.Try.underlying50 ⟨⟨rfl, rfl, Go.Proofs.Try.isAgg4, fun _ => rfl⟩, ⟨rfl, rfl, Go.Proofs.Try.isAgg46, fun h => by cases h⟩, trivial⟩) Go.Proofs.Try.type50 rfl rfl rfl rfl rfl rfl (fun h => by cases h)
theorem ty51 : AE.TypeOK Go.Proofs.Try.prog 51 ⟨.struct [(0, 6, true), (6, 4, true)], 10, 128, [Go.Value.bool false, Go.Value.string { data := #[] }, Go.Value.string { data := #[] }, Go.Value.bool false,
  Go.Value.string { data := #[] }, Go.Value.string { data := #[] }, Go.Value.bool false, Go.Value.bool false,
  Go.Value.string { data := #[] }, Go.Value.string { data := #[] }]⟩ := AE.TypeOK.of (AE.KindOK.struct Go.Proofs.Try.underlying51 ⟨⟨rfl, rfl, Go.Proofs.Try.isAgg48, fun h => by cases h⟩, ⟨rfl, rfl, Go.Proofs.Try.isAgg50, fun h => by cases h⟩, trivial⟩) Go.Proofs.Try.type51 rfl rfl rfl rfl rfl rfl (fun h => by cases h)
theorem ty52 : AE.TypeOK Go.Proofs.Try.prog 52 ⟨.struct [(0, 6, true), (6, 4, true)], 10, 128, [Go.Value.bool false, Go.Value.string { data := #[] }, Go.Value.string { data := #[] }, Go.Value.bool false,
  Go.Value.string { data := #[] }, Go.Value.string { data := #[] }, Go.Value.bool false, Go.Value.bool false,
  Go.Value.string { data := #[] }, Go.Value.string { data := #[] }]⟩ := AE.TypeOK.of (AE.KindOK.struct Go.Proofs.Try.underlying52 ⟨⟨rfl, rfl, Go.Proofs.Try.isAgg48, fun h => by cases h⟩, ⟨rfl, rfl, Go.Proofs.Try.isAgg50, fun h => by cases h⟩, trivial⟩) Go.Proofs.Try.type52 rfl rfl rfl rfl rfl rfl (fun h => by cases h)
theorem ty53 : AE.TypeOK Go.Proofs.Try.prog 53 ⟨.other, 1, 8, [Go.Value.nilFunc]⟩ := AE.TypeOK.of (Go.Proofs.Try.isAgg53) Go.Proofs.Try.type53 rfl rfl rfl rfl rfl rfl (fun h => rfl)
theorem ty54 : AE.TypeOK Go.Proofs.Try.prog 54 ⟨.other, 1, 8, [Go.Value.nilFunc]⟩ := AE.TypeOK.of (Go.Proofs.Try.isAgg54) Go.Proofs.Try.type54 rfl rfl rfl rfl rfl rfl (fun h => rfl)
theorem ty55 : AE.TypeOK Go.Proofs.Try.prog 55 ⟨.other, 1, 8, [Go.Value.nilFunc]⟩ := AE.TypeOK.of (Go.Proofs.Try.isAgg55) Go.Proofs.Try.type55 rfl rfl rfl rfl rfl rfl (fun h => rfl)
theorem ty56 : AE.TypeOK Go.Proofs.Try.prog 56 ⟨.other, 1, 8, [Go.Value.nilFunc]⟩ := AE.TypeOK.of (Go.Proofs.Try.isAgg56) Go.Proofs.Try.type56 rfl rfl rfl rfl rfl rfl (fun h => rfl)
theorem ty57 : AE.TypeOK Go.Proofs.Try.prog 57 ⟨.other, 1, 8, [Go.Value.nilFunc]⟩ := AE.TypeOK.of (Go.Proofs.Try.isAgg57) Go.Proofs.Try.type57 rfl rfl rfl rfl rfl rfl (fun h => rfl)
theorem ty58 : AE.TypeOK Go.Proofs.Try.prog 58 ⟨.other, 1, 8, [Go.Value.nilFunc]⟩ := AE.TypeOK.of (Go.Proofs.Try.isAgg58) Go.Proofs.Try.type58 rfl rfl rfl rfl rfl rfl (fun h => rfl)
theorem ty59 : AE.TypeOK Go.Proofs.Try.prog 59 ⟨.other, 1, 8, [Go.Value.nilFunc]⟩ := AE.TypeOK.of (Go.Proofs.Try.isAgg59) Go.Proofs.Try.type59 rfl rfl rfl rfl rfl rfl (fun h => rfl)
theorem ty60 : AE.TypeOK Go.Proofs.Try.prog 60 ⟨.other, 1, 8, [Go.Value.nilFunc]⟩ := AE.TypeOK.of (Go.Proofs.Try.isAgg60) Go.Proofs.Try.type60 rfl rfl rfl rfl rfl rfl (fun h => rfl)
theorem ty61 : AE.TypeOK Go.Proofs.Try.prog 61 ⟨.other, 1, 8, [Go.Value.nilFunc]⟩ := AE.TypeOK.of (Go.Proofs.Try.isAgg61) Go.Proofs.Try.type61 rfl rfl rfl rfl rfl rfl (fun h => rfl)
theorem ty62 : AE.TypeOK Go.Proofs.Try.prog 62 ⟨.other, 1, 8, [Go.Value.nilFunc]⟩ := AE.TypeOK.of (Go.Proofs.Try.isAgg62) Go.Proofs.Try.type62 rfl rfl rfl rfl rfl rfl (fun h => rfl)
theorem ty63 : AE.TypeOK Go.Proofs.Try.prog 63 ⟨.other, 1, 8, [Go.Value.nilFunc]⟩ := AE.TypeOK.of (Go.Proofs.Try.isAgg63) Go.Proofs.Try.type63 rfl rfl rfl rfl rfl rfl (fun h => rfl)
theorem ty64 : AE.TypeOK Go.Proofs.Try.prog 64 ⟨.other, 1, 8, [Go.Value.nilFunc]⟩ := AE.TypeOK.of (Go.Proofs.Try.isAgg64) Go.Proofs.Try.type64 rfl rfl rfl rfl rfl rfl (fun h => rfl)
theorem ty65 : AE.TypeOK Go.Proofs.Try.prog 65 ⟨.other, 1, 8, [Go.Value.nilFunc]⟩ := AE.TypeOK.of (Go.Proofs.Try.isAgg65) Go.Proofs.Try.type65 rfl rfl rfl rfl rfl rfl (fun h => rfl)
theorem ty66 : AE.TypeOK Go.Proofs.Try.prog 66 ⟨.int Go.IntKind.u64, 1, 8, [Go.Value.int Go.IntKind.u64 0]⟩ := AE.TypeOK.of (Go.Proofs.Try.underlying66) Go.Proofs.Try.type66 rfl rfl rfl rfl rfl rfl (fun h => rfl)
theorem ty67 : AE.TypeOK Go.Proofs.Try.prog 67 ⟨.other, 1, 8, [Go.Value.nilFunc]⟩ := AE.TypeOK.of (Go.Proofs.Try.isAgg67) Go.Proofs.Try.type67 rfl rfl rfl rfl rfl rfl (fun h => rfl)
theorem ty68 : AE.TypeOK Go.Proofs.Try.prog 68 ⟨.other, 1, 8, [Go.Value.nilFunc]⟩ := AE.TypeOK.of (Go.Proofs.Try.isAgg68) Go.Proofs.Try.type68 rfl rfl rfl rfl rfl rfl (fun h => rfl)
theorem ty69 : AE.TypeOK Go.Proofs.Try.prog 69 ⟨.other, 1, 8, [Go.Value.nilFunc]⟩ := AE.TypeOK.of (Go.Proofs.Try.isAgg69) Go.Proofs.Try.type69 rfl rfl rfl rfl rfl rfl (fun h => rfl)
theorem ty70 : AE.TypeOK Go.Proofs.Try.prog 70 ⟨.struct [(0, 1, false), (1, 1, false), (2, 1, false), (3, 1, false)], 4, 40, [Go.Value.pointer none, Go.Value.pointer none, Go.Value.pointer none, Go.Value.string { data := #[] }]⟩ := AE.TypeOK.of (AE.KindOK.struct Go.Proofs.Try.underlying70 ⟨⟨rfl, rfl, Go.Proofs.Try.isAgg17, fun _ => rfl⟩, ⟨rfl, rfl, Go.Proofs.Try.isAgg17, fun _ => rfl⟩, ⟨rfl, rfl, Go.Proofs.Try.isAgg17, fun _ => rfl⟩, ⟨rfl, rfl, Go.Proofs.Try.isAgg9, fun _ => rfl⟩, trivial⟩) Go.Proofs.Try.type70 rfl rfl rfl rfl rfl rfl (fun h => by cases h)
theorem ty71 : AE.TypeOK Go.Proofs.Try.prog 71 ⟨.struct [(0, 1, false), (1, 1, false), (2, 1, false), (3, 1, false)], 4, 40, [Go.Value.pointer none, Go.Value.pointer none, Go.Value.pointer none, Go.Value.string { data := #[] }]⟩ := AE.TypeOK.of (AE.KindOK.struct Go.Proofs.Try.underlying71 ⟨⟨rfl, rfl, Go.Proofs.Try.isAgg17, fun _ => rfl⟩, ⟨rfl, rfl, Go.Proofs.Try.isAgg17, fun _ => rfl⟩, ⟨rfl, rfl, Go.Proofs.Try.isAgg17, fun _ => rfl⟩, ⟨rfl, rfl, Go.Proofs.Try.isAgg9, fun _ => rfl⟩, trivial⟩) Go.Proofs.Try.type71 rfl rfl rfl rfl rfl rfl (fun h => by cases h)
theorem ty72 : AE.TypeOK Go.Proofs.Try.prog 72 ⟨.array 0 16, 0, 0, []⟩ := AE.TypeOK.of (Go.Proofs.Try.underlying72) Go.Proofs.Try.type72 rfl rfl rfl rfl rfl rfl (fun h => by cases h)
theorem ty73 : AE.TypeOK Go.Proofs.Try.prog 73 ⟨.struct [(0, 0, true)], 0, 0, []⟩ := AE.TypeOK.of (AE.KindOK.struct Go.Proofs.Try.underlying73 ⟨⟨rfl, rfl, Go.Proofs.Try.isAgg72, fun h => by cases h⟩, trivial⟩) Go.Proofs.Try.type73 rfl rfl rfl rfl rfl rfl (fun h => by cases h)
theorem ty74 : AE.TypeOK Go.Proofs.Try.prog 74 ⟨.struct [(0, 0, true)], 0, 0, []⟩ := AE.TypeOK.of (AE.KindOK.struct Go.Proofs.Try.underlying74 ⟨⟨rfl, rfl, Go.Proofs.Try.isAgg72, fun h => by cases h⟩, trivial⟩) Go.Proofs.Try.type74 rfl rfl rfl rfl rfl rfl (fun h => by cases h)
theorem ty75 : AE.TypeOK Go.Proofs.Try.prog 75 ⟨.other, 1, 8, [Go.Value.nilFunc]⟩ := AE.TypeOK.of (Go.Proofs.Try.isAgg75) Go.Proofs.Try.type75 rfl rfl rfl rfl rfl rfl (fun h => rfl)
theorem ty76 : AE.TypeOK Go.Proofs.Try.prog 76 ⟨.int Go.IntKind.u32, 1, 4, [Go.Value.int Go.IntKind.u32 0]⟩ := AE.TypeOK.of (Go.Proofs.Try.underlying76) Go.Proofs.Try.type76 rfl rfl rfl rfl rfl rfl (fun h => rfl)
theorem ty77 : AE.TypeOK Go.Proofs.Try.prog 77 ⟨.int Go.IntKind.u8, 1, 1, [Go.Value.int Go.IntKind.u8 0]⟩ := AE.TypeOK.of (Go.Proofs.Try.underlying77) Go.Proofs.Try.type77 rfl rfl rfl rfl rfl rfl (fun h => rfl)
theorem ty78 : AE.TypeOK Go.Proofs.Try.prog 78 ⟨.int Go.IntKind.u8, 1, 1, [Go.Value.int Go.IntKind.u8 0]⟩ := AE.TypeOK.of (Go.Proofs.Try.underlying78) Go.Proofs.Try.type78 rfl rfl rfl rfl rfl rfl (fun h => rfl)
theorem ty79 : AE.TypeOK Go.Proofs.Try.prog 79 ⟨.other, 1, 8, [Go.Value.nilFunc]⟩ := AE.TypeOK.of (Go.Proofs.Try.isAgg79) Go.Proofs.Try.type79 rfl rfl rfl rfl rfl rfl (fun h => rfl)
theorem ty80 : AE.TypeOK Go.Proofs.Try.prog 80 ⟨.ptr 5, 1, 8, [Go.Value.pointer none]⟩ := AE.TypeOK.of (Go.Proofs.Try.underlying80) Go.Proofs.Try.type80 rfl rfl rfl rfl rfl rfl (fun h => rfl)
theorem ty81 : AE.TypeOK Go.Proofs.Try.prog 81 ⟨.int Go.IntKind.i32, 1, 4, [Go.Value.int Go.IntKind.i32 0]⟩ := AE.TypeOK.of (Go.Proofs.Try.underlying81) Go.Proofs.Try.type81 rfl rfl rfl rfl rfl rfl (fun h => rfl)
theorem ty82 : AE.TypeOK Go.Proofs.Try.prog 82 ⟨.int Go.IntKind.i32, 1, 4, [Go.Value.int Go.IntKind.i32 0]⟩ := AE.TypeOK.of (Go.Proofs.Try.underlying82) Go.Proofs.Try.type82 rfl rfl rfl rfl rfl rfl (fun h => rfl)
theorem ty83 : AE.TypeOK Go.Proofs.Try.prog 83 ⟨.struct [(0, 1, false), (1, 1, false), (2, 1, false), (3, 1, false), (4, 1, false), (5, 1, false), (6, 1, false), (7, 1, false), (8, 1, false), (9, 1, false), (10, 1, false)], 11, 48, [Go.Value.int Go.IntKind.u64 0, Go.Value.int Go.IntKind.u64 0, Go.Value.int Go.IntKind.u32 0,
  Go.Value.int Go.IntKind.u8 0, Go.Value.int Go.IntKind.u8 0, Go.Value.int Go.IntKind.u8 0,
  Go.Value.int Go.IntKind.u8 0, Go.Value.nilFunc, Go.Value.pointer none, Go.Value.int Go.IntKind.i32 0,
  Go.Value.int Go.IntKind.i32 0]⟩ := AE.TypeOK.of (AE.KindOK.struct Go.Proofs.Try.underlying83 ⟨⟨rfl, rfl, Go.Proofs.Try.isAgg12, fun _ => rfl⟩, ⟨rfl, rfl, Go.Proofs.Try.isAgg12, fun _ => rfl⟩, ⟨rfl, rfl, Go.Proofs.Try.isAgg76, fun _ => rfl⟩, ⟨rfl, rfl, Go.Proofs.Try.isAgg77, fun _ => rfl⟩, ⟨rfl, rfl, Go.Proofs.Try.isAgg5, fun _ => rfl⟩, ⟨rfl, rfl, Go.Proofs.Try.isAgg5, fun _ => rfl⟩, ⟨rfl, rfl, Go.Proofs.Try.isAgg78, fun _ => rfl⟩, ⟨rfl, rfl, Go.Proofs.Try.isAgg79, fun _ => rfl⟩, ⟨rfl, rfl, Go.Proofs.Try.isAgg80, fun _ => rfl⟩, ⟨rfl, rfl, Go.Proofs.Try.isAgg81, fun _ => rfl⟩, ⟨rfl, rfl, Go.Proofs.Try.isAgg82, fun _ => rfl⟩, trivial⟩) Go.Proofs.Try.type83 rfl rfl rfl rfl rfl rfl (fun h => by cases h)
theorem ty84 : AE.TypeOK Go.Proofs.Try.prog 84 ⟨.struct [(0, 1, false), (1, 1, false), (2, 1, false), (3, 1, false), (4, 1, false), (5, 1, false), (6, 1, false), (7, 1, false), (8, 1, false), (9, 1, false), (10, 1, false)], 11, 48, [Go.Value.int Go.IntKind.u64 0, Go.Value.int Go.IntKind.u64 0, Go.Value.int Go.IntKind.u32 0,
  Go.Value.int Go.IntKind.u8 0, Go.Value.int Go.IntKind.u8 0, Go.Value.int Go.IntKind.u8 0,
  Go.Value.int Go.IntKind.u8 0, Go.Value.nilFunc, Go.Value.pointer none, Go.Value.int Go.IntKind.i32 0,
  Go.Value.int Go.IntKind.i32 0]⟩ := AE.TypeOK.of (AE.KindOK.struct Go.Proofs.Try.underlying84 ⟨⟨rfl, rfl, Go.Proofs.Try.isAgg12, fun _ => rfl⟩, ⟨rfl, rfl, Go.Proofs.Try.isAgg12, fun _ => rfl⟩, ⟨rfl, rfl, Go.Proofs.Try.isAgg76, fun _ => rfl⟩, ⟨rfl, rfl, Go.Proofs.Try.isAgg77, fun _ => rfl⟩, ⟨rfl, rfl, Go.Proofs.Try.isAgg5, fun _ => rfl⟩, ⟨rfl, rfl, Go.Proofs.Try.isAgg5, fun _ => rfl⟩, ⟨rfl, rfl, Go.Proofs.Try.isAgg78, fun _ => rfl⟩, ⟨rfl, rfl, Go.Proofs.Try.isAgg79, fun _ => rfl⟩, ⟨rfl, rfl, Go.Proofs.Try.isAgg80, fun _ => rfl⟩, ⟨rfl, rfl, Go.Proofs.Try.isAgg81, fun _ => rfl⟩, ⟨rfl, rfl, Go.Proofs.Try.isAgg82, fun _ => rfl⟩, trivial⟩) Go.Proofs.Try.type84 rfl rfl rfl rfl rfl rfl (fun h => by cases h)
theorem ty85 : AE.TypeOK Go.Proofs.Try.prog 85 ⟨.other, 1, 8, [Go.Value.pointer none]⟩ := AE.TypeOK.of (Go.Proofs.Try.isAgg85) Go.Proofs.Try.type85 rfl rfl rfl rfl rfl rfl (fun h => rfl)
def Tab : AE.Tab := [
  (1, ⟨.other, 1, 8, [Go.Value.nilFunc]⟩),
  (2, ⟨.int Go.IntKind.i64, 1, 8, [Go.Value.int Go.IntKind.i64 0]⟩),
  (3, ⟨.int Go.IntKind.i64, 1, 8, [Go.Value.int Go.IntKind.i64 0]⟩),
  (4, ⟨.bool, 1, 1, [Go.Value.bool false]⟩),
  (5, ⟨.int Go.IntKind.u8, 1, 1, [Go.Value.int Go.IntKind.u8 0]⟩),
  (6, ⟨.int Go.IntKind.u8, 1, 1, [Go.Value.int Go.IntKind.u8 0]⟩),
  (7, ⟨.struct [(0, 1, false), (1, 1, false), (2, 1, false), (3, 1, false)], 4, 24, [Go.Value.int Go.IntKind.i64 0, Go.Value.int Go.IntKind.i64 0, Go.Value.bool false, Go.Value.int Go.IntKind.u8 0]⟩),
  (8, ⟨.struct [(0, 1, false), (1, 1, false), (2, 1, false), (3, 1, false)], 4, 24, [Go.Value.int Go.IntKind.i64 0, Go.Value.int Go.IntKind.i64 0, Go.Value.bool false, Go.Value.int Go.IntKind.u8 0]⟩),
  (9, ⟨.str, 1, 16, [Go.Value.string { data := #[] }]⟩),
  (10, ⟨.str, 1, 16, [Go.Value.string { data := #[] }]⟩),
  (11, ⟨.str, 1, 16, [Go.Value.string { data := #[] }]⟩),
  (12, ⟨.int Go.IntKind.u64, 1, 8, [Go.Value.int Go.IntKind.u64 0]⟩),
  (13, ⟨.struct [(0, 1, false), (1, 1, false)], 2, 24, [Go.Value.string { data := #[] }, Go.Value.int Go.IntKind.u64 0]⟩),
  (14, ⟨.struct [(0, 1, false), (1, 1, false)], 2, 24, [Go.Value.string { data := #[] }, Go.Value.int Go.IntKind.u64 0]⟩),
  (15, ⟨.ptr 71, 1, 8, [Go.Value.pointer none]⟩),
  (16, ⟨.ptr 74, 1, 8, [Go.Value.pointer none]⟩),
  (17, ⟨.ptr 84, 1, 8, [Go.Value.pointer none]⟩),
  (18, ⟨.struct [(0, 1, false)], 1, 8, [Go.Value.pointer none]⟩),
  (19, ⟨.struct [(0, 1, false)], 1, 8, [Go.Value.pointer none]⟩),
  (20, ⟨.other, 1, 16, [Go.Value.nilIface]⟩),
  (21, ⟨.int Go.IntKind.i32, 1, 4, [Go.Value.int Go.IntKind.i32 0]⟩),
  (22, ⟨.slice 42, 1, 24, [Go.Value.slice none 0 0]⟩),
  (23, ⟨.slice 52, 1, 24, [Go.Value.slice none 0 0]⟩),
  (24, ⟨.slice 48, 1, 24, [Go.Value.slice none 0 0]⟩),
  (25, ⟨.slice 4, 1, 24, [Go.Value.slice none 0 0]⟩),
  (26, ⟨.struct [(0, 1, false), (1, 1, false), (2, 1, false), (3, 1, false), (4, 1, false)], 5, 104, [Go.Value.int Go.IntKind.i64 0, Go.Value.slice none 0 0, Go.Value.slice none 0 0, Go.Value.slice none 0 0,
  Go.Value.slice none 0 0]⟩),
  (27, ⟨.struct [(0, 1, false), (1, 1, false), (2, 1, false), (3, 1, false), (4, 1, false)], 5, 104, [Go.Value.int Go.IntKind.i64 0, Go.Value.slice none 0 0, Go.Value.slice none 0 0, Go.Value.slice none 0 0,
  Go.Value.slice none 0 0]⟩),
  (28, ⟨.slice 5, 1, 24, [Go.Value.slice none 0 0]⟩),
  (29, ⟨.other, 1, 8, [Go.Value.nilFunc]⟩),
  (30, ⟨.other, 1, 8, [Go.Value.nilFunc]⟩),
  (31, ⟨.int Go.IntKind.u64, 1, 8, [Go.Value.int Go.IntKind.u64 0]⟩),
  (32, ⟨.other, 1, 8, [Go.Value.nilFunc]⟩),
  (33, ⟨.other, 1, 8, [Go.Value.nilFunc]⟩),
  (34, ⟨.other, 1, 8, [Go.Value.nilFunc]⟩),
  (35, ⟨.other, 1, 8, [Go.Value.nilFunc]⟩),
  (36, ⟨.ptr 38, 1, 8, [Go.Value.pointer none]⟩),
  (37, ⟨.struct [(0, 1, false)], 1, 24, [Go.Value.slice none 0 0]⟩),
  (38, ⟨.struct [(0, 1, false)], 1, 24, [Go.Value.slice none 0 0]⟩),
  (39, ⟨.other, 1, 8, [Go.Value.nilFunc]⟩),
  (40, ⟨.slice 46, 1, 24, [Go.Value.slice none 0 0]⟩),
  (41, ⟨.struct [(0, 1, false), (1, 1, false), (2, 1, false), (3, 1, false)], 4, 64, [Go.Value.slice none 0 0, Go.Value.slice none 0 0, Go.Value.bool false, Go.Value.int Go.IntKind.i64 0]⟩),
  (42, ⟨.struct [(0, 1, false), (1, 1, false), (2, 1, false), (3, 1, false)], 4, 64, [Go.Value.slice none 0 0, Go.Value.slice none 0 0, Go.Value.bool false, Go.Value.int Go.IntKind.i64 0]⟩),
  (43, ⟨.other, 1, 8, [Go.Value.nilFunc]⟩),
  (44, ⟨.other, 1, 8, [Go.Value.nilFunc]⟩),
  (45, ⟨.struct [(0, 1, false), (1, 1, false), (2, 1, false)], 3, 40, [Go.Value.bool false, Go.Value.string { data := #[] }, Go.Value.string { data := #[] }]⟩),
  (46, ⟨.struct [(0, 1, false), (1, 1, false), (2, 1, false)], 3, 40, [Go.Value.bool false, Go.Value.string { data := #[] }, Go.Value.string { data := #[] }]⟩),
  (47, ⟨.struct [(0, 3, true), (3, 3, true)], 6, 80, [Go.Value.bool false, Go.Value.string { data := #[] }, Go.Value.string { data := #[] }, Go.Value.bool false,
  Go.Value.string { data := #[] }, Go.Value.string { data := #[] }]⟩),
  (48, ⟨.struct [(0, 3, true), (3, 3, true)], 6, 80, [Go.Value.bool false, Go.Value.string { data := #[] }, Go.Value.string { data := #[] }, Go.Value.bool false,
  Go.Value.string { data := #[] }, Go.Value.string { data := #[] }]⟩),
  (49, ⟨.struct [(0, 1, false), (1, 3, true)], 4, 48, [Go.Value.bool false, Go.Value.bool false, Go.Value.string { data := #[] }, Go.Value.string { data := #[] }]⟩),
  (50, ⟨.struct [(0, 1, false), (1, 3, true)], 4, 48, [Go.Value.bool false, Go.Value.bool false, Go.Value.string { data := #[] }, Go.Value.string { data := #[] }]⟩),
  (51, ⟨.struct [(0, 6, true), (6, 4, true)], 10, 128, [Go.Value.bool false, Go.Value.string { data := #[] }, Go.Value.string { data := #[] }, Go.Value.bool false,
  Go.Value.string { data := #[] }, Go.Value.string { data := #[] }, Go.Value.bool false, Go.Value.bool false,
  Go.Value.string { data := #[] }, Go.Value.string { data := #[] }]⟩),
  (52, ⟨.struct [(0, 6, true), (6, 4, true)], 10, 128, [Go.Value.bool false, Go.Value.string { data := #[] }, Go.Value.string { data := #[] }, Go.Value.bool false,
  Go.Value.string { data := #[] }, Go.Value.string { data := #[] }, Go.Value.bool false, Go.Value.bool false,
  Go.Value.string { data := #[] }, Go.Value.string { data := #[] }]⟩),
  (53, ⟨.other, 1, 8, [Go.Value.nilFunc]⟩),
  (54, ⟨.other, 1, 8, [Go.Value.nilFunc]⟩),
  (55, ⟨.other, 1, 8, [Go.Value.nilFunc]⟩),
  (56, ⟨.other, 1, 8, [Go.Value.nilFunc]⟩),
  (57, ⟨.other, 1, 8, [Go.Value.nilFunc]⟩),
  (58, ⟨.other, 1, 8, [Go.Value.nilFunc]⟩),
  (59, ⟨.other, 1, 8, [Go.Value.nilFunc]⟩),
  (60, ⟨.other, 1, 8, [Go.Value.nilFunc]⟩),
  (61, ⟨.other, 1, 8, [Go.Value.nilFunc]⟩),
  (62, ⟨.other, 1, 8, [Go.Value.nilFunc]⟩),
  (63, ⟨.other, 1, 8, [Go.Value.nilFunc]⟩),
  (64, ⟨.other, 1, 8, [Go.Value.nilFunc]⟩),
  (65, ⟨.other, 1, 8, [Go.Value.nilFunc]⟩),
  (66, ⟨.int Go.IntKind.u64, 1, 8, [Go.Value.int Go.IntKind.u64 0]⟩),
  (67, ⟨.other, 1, 8, [Go.Value.nilFunc]⟩),
  (68, ⟨.other, 1, 8, [Go.Value.nilFunc]⟩),
  (69, ⟨.other, 1, 8, [Go.Value.nilFunc]⟩),
  (70, ⟨.struct [(0, 1, false), (1, 1, false), (2, 1, false), (3, 1, false)], 4, 40, [Go.Value.pointer none, Go.Value.pointer none, Go.Value.pointer none, Go.Value.string { data := #[] }]⟩),
  (71, ⟨.struct [(0, 1, false), (1, 1, false), (2, 1, false), (3, 1, false)], 4, 40, [Go.Value.pointer none, Go.Value.pointer none, Go.Value.pointer none, Go.Value.string { data := #[] }]⟩),
  (72, ⟨.array 0 16, 0, 0, []⟩),
  (73, ⟨.struct [(0, 0, true)], 0, 0, []⟩),
  (74, ⟨.struct [(0, 0, true)], 0, 0, []⟩),
  (75, ⟨.other, 1, 8, [Go.Value.nilFunc]⟩),
  (76, ⟨.int Go.IntKind.u32, 1, 4, [Go.Value.int Go.IntKind.u32 0]⟩),
  (77, ⟨.int Go.IntKind.u8, 1, 1, [Go.Value.int Go.IntKind.u8 0]⟩),
  (78, ⟨.int Go.IntKind.u8, 1, 1, [Go.Value.int Go.IntKind.u8 0]⟩),
  (79, ⟨.other, 1, 8, [Go.Value.nilFunc]⟩),
  (80, ⟨.ptr 5, 1, 8, [Go.Value.pointer none]⟩),
  (81, ⟨.int Go.IntKind.i32, 1, 4, [Go.Value.int Go.IntKind.i32 0]⟩),
  (82, ⟨.int Go.IntKind.i32, 1, 4, [Go.Value.int Go.IntKind.i32 0]⟩),
  (83, ⟨.struct [(0, 1, false), (1, 1, false), (2, 1, false), (3, 1, false), (4, 1, false), (5, 1, false), (6, 1, false), (7, 1, false), (8, 1, false), (9, 1, false), (10, 1, false)], 11, 48, [Go.Value.int Go.IntKind.u64 0, Go.Value.int Go.IntKind.u64 0, Go.Value.int Go.IntKind.u32 0,
  Go.Value.int Go.IntKind.u8 0, Go.Value.int Go.IntKind.u8 0, Go.Value.int Go.IntKind.u8 0,
  Go.Value.int Go.IntKind.u8 0, Go.Value.nilFunc, Go.Value.pointer none, Go.Value.int Go.IntKind.i32 0,
  Go.Value.int Go.IntKind.i32 0]⟩),
  (84, ⟨.struct [(0, 1, false), (1, 1, false), (2, 1, false), (3, 1, false), (4, 1, false), (5, 1, false), (6, 1, false), (7, 1, false), (8, 1, false), (9, 1, false), (10, 1, false)], 11, 48, [Go.Value.int Go.IntKind.u64 0, Go.Value.int Go.IntKind.u64 0, Go.Value.int Go.IntKind.u32 0,
  Go.Value.int Go.IntKind.u8 0, Go.Value.int Go.IntKind.u8 0, Go.Value.int Go.IntKind.u8 0,
  Go.Value.int Go.IntKind.u8 0, Go.Value.nilFunc, Go.Value.pointer none, Go.Value.int Go.IntKind.i32 0,
  Go.Value.int Go.IntKind.i32 0]⟩),
  (85, ⟨.other, 1, 8, [Go.Value.pointer none]⟩)]
theorem tabOK : AE.TabOK Go.Proofs.Try.prog Tab :=
  AE.TabOK.cons ty1 <|
  AE.TabOK.cons ty2 <|
  AE.TabOK.cons ty3 <|
  AE.TabOK.cons ty4 <|
  AE.TabOK.cons ty5 <|
  AE.TabOK.cons ty6 <|
  AE.TabOK.cons ty7 <|
  AE.TabOK.cons ty8 <|
  AE.TabOK.cons ty9 <|
  AE.TabOK.cons ty10 <|
  AE.TabOK.cons ty11 <|
  AE.TabOK.cons ty12 <|
  AE.TabOK.cons ty13 <|
  AE.TabOK.cons ty14 <|
  AE.TabOK.cons ty15 <|
  AE.TabOK.cons ty16 <|
  AE.TabOK.cons ty17 <|
  AE.TabOK.cons ty18 <|
  AE.TabOK.cons ty19 <|
  AE.TabOK.cons ty20 <|
  AE.TabOK.cons ty21 <|
  AE.TabOK.cons ty22 <|
  AE.TabOK.cons ty23 <|
  AE.TabOK.cons ty24 <|
  AE.TabOK.cons ty25 <|
  AE.TabOK.cons ty26 <|
  AE.TabOK.cons ty27 <|
  AE.TabOK.cons ty28 <|
  AE.TabOK.cons ty29 <|
  AE.TabOK.cons ty30 <|
  AE.TabOK.cons ty31 <|
  AE.TabOK.cons ty32 <|
  AE.TabOK.cons ty33 <|
  AE.TabOK.cons ty34 <|
  AE.TabOK.cons ty35 <|
  AE.TabOK.cons ty36 <|
  AE.TabOK.cons ty37 <|
  AE.TabOK.cons ty38 <|
  AE.TabOK.cons ty39 <|
  AE.TabOK.cons ty40 <|
  AE.TabOK.cons ty41 <|
  AE.TabOK.cons ty42 <|
  AE.TabOK.cons ty43 <|
  AE.TabOK.cons ty44 <|
  AE.TabOK.cons ty45 <|
  AE.TabOK.cons ty46 <|
  AE.TabOK.cons ty47 <|
  AE.TabOK.cons ty48 <|
  AE.TabOK.cons ty49 <|
  AE.TabOK.cons ty50 <|
  AE.TabOK.cons ty51 <|
  AE.TabOK.cons ty52 <|
  AE.TabOK.cons ty53 <|
  AE.TabOK.cons ty54 <|
  AE.TabOK.cons ty55 <|
  AE.TabOK.cons ty56 <|
  AE.TabOK.cons ty57 <|
  AE.TabOK.cons ty58 <|
  AE.TabOK.cons ty59 <|
  AE.TabOK.cons ty60 <|
  AE.TabOK.cons ty61 <|
  AE.TabOK.cons ty62 <|
  AE.TabOK.cons ty63 <|
  AE.TabOK.cons ty64 <|
  AE.TabOK.cons ty65 <|
  AE.TabOK.cons ty66 <|
  AE.TabOK.cons ty67 <|
  AE.TabOK.cons ty68 <|
  AE.TabOK.cons ty69 <|
  AE.TabOK.cons ty70 <|
  AE.TabOK.cons ty71 <|
  AE.TabOK.cons ty72 <|
  AE.TabOK.cons ty73 <|
  AE.TabOK.cons ty74 <|
  AE.TabOK.cons ty75 <|
  AE.TabOK.cons ty76 <|
  AE.TabOK.cons ty77 <|
  AE.TabOK.cons ty78 <|
  AE.TabOK.cons ty79 <|
  AE.TabOK.cons ty80 <|
  AE.TabOK.cons ty81 <|
  AE.TabOK.cons ty82 <|
  AE.TabOK.cons ty83 <|
  AE.TabOK.cons ty84 <|
  AE.TabOK.cons ty85 <|
  AE.TabOK.nil
end Go.Proofs.Ytjbnffclpebkkaa
