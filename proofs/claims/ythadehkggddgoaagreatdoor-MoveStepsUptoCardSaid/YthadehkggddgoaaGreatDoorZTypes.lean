/- The table of types of this seat's program: written by tools/gentab.sh. -/
import Derived.Test.YthadehkggddgoaaGreatDoorRows
import Derived.Test.YthadehkggddgoaaGreatDoorAE11
set_option linter.unusedVariables false
set_option maxRecDepth 20000
namespace Go.Proofs.YthadehkggddgoaaGreatDoor
open Go
theorem ty2:AE.TypeOK Tryz.prog 2 ⟨.int IntKind.i64,1,8,[Value.int IntKind.i64 0]⟩:=AE.TypeOK.of (Tryz.underlying2) Tryz.type2 rfl rfl rfl rfl rfl rfl (fun h=>rfl)
theorem ty3:AE.TypeOK Tryz.prog 3 ⟨.int IntKind.i64,1,8,[Value.int IntKind.i64 0]⟩:=AE.TypeOK.of (Tryz.underlying3) Tryz.type3 rfl rfl rfl rfl rfl rfl (fun h=>rfl)
theorem ty4:AE.TypeOK Tryz.prog 4 ⟨.bool,1,1,[Value.bool false]⟩:=AE.TypeOK.of (Tryz.underlying4) Tryz.type4 rfl rfl rfl rfl rfl rfl (fun h=>rfl)
theorem ty5:AE.TypeOK Tryz.prog 5 ⟨.int IntKind.u8,1,1,[Value.int IntKind.u8 0]⟩:=AE.TypeOK.of (Tryz.underlying5) Tryz.type5 rfl rfl rfl rfl rfl rfl (fun h=>rfl)
theorem ty6:AE.TypeOK Tryz.prog 6 ⟨.int IntKind.u8,1,1,[Value.int IntKind.u8 0]⟩:=AE.TypeOK.of (Tryz.underlying6) Tryz.type6 rfl rfl rfl rfl rfl rfl (fun h=>rfl)
theorem ty8:AE.TypeOK Tryz.prog 8 ⟨.struct [(0,1,false),(1,1,false),(2,1,false),(3,1,false)] (some [2,3,4,6]),4,24,[Value.int IntKind.i64 0,Value.int IntKind.i64 0,Value.bool false,Value.int IntKind.u8 0]⟩:=AE.TypeOK.of (AE.KindOK.structEq Tryz.underlying8 ⟨⟨rfl,AE.size_of Tryz.type2 rfl,Tryz.isAgg2,fun _=>rfl⟩,⟨rfl,AE.size_of Tryz.type3 rfl,Tryz.isAgg3,fun _=>rfl⟩,⟨rfl,AE.size_of Tryz.type4 rfl,Tryz.isAgg4,fun _=>rfl⟩,⟨rfl,AE.size_of Tryz.type6 rfl,Tryz.isAgg6,fun _=>rfl⟩,trivial⟩ (by kernel_rfl) (by kernel_rfl) ⟨⟨rfl,by decide⟩,⟨rfl,by decide⟩,⟨rfl,by decide⟩,⟨rfl,by decide⟩,trivial⟩) Tryz.type8 rfl rfl rfl rfl rfl rfl (fun h=>by cases h)
theorem ty9:AE.TypeOK Tryz.prog 9 ⟨.str,1,16,[Value.string { data:=#[] }]⟩:=AE.TypeOK.of (Tryz.underlying9) Tryz.type9 rfl rfl rfl rfl rfl rfl (fun h=>rfl)
theorem ty10:AE.TypeOK Tryz.prog 10 ⟨.str,1,16,[Value.string { data:=#[] }]⟩:=AE.TypeOK.of (Tryz.underlying10) Tryz.type10 rfl rfl rfl rfl rfl rfl (fun h=>rfl)
theorem ty11:AE.TypeOK Tryz.prog 11 ⟨.str,1,16,[Value.string { data:=#[] }]⟩:=AE.TypeOK.of (Tryz.underlying11) Tryz.type11 rfl rfl rfl rfl rfl rfl (fun h=>rfl)
theorem ty14:AE.TypeOK Tryz.prog 14 ⟨.struct [(0,1,false),(1,1,false)] none,2,24,[Value.string { data:=#[] },Value.int IntKind.u64 0]⟩:=AE.TypeOK.of (AE.KindOK.struct Tryz.underlying14 ⟨⟨rfl,AE.size_of Tryz.type9 rfl,Tryz.isAgg9,fun _=>rfl⟩,⟨rfl,AE.size_of Tryz.type12 rfl,Tryz.isAgg12,fun _=>rfl⟩,trivial⟩) Tryz.type14 rfl rfl rfl rfl rfl rfl (fun h=>by cases h)
theorem ty15:AE.TypeOK Tryz.prog 15 ⟨.ptr 289,1,8,[Value.pointer none]⟩:=AE.TypeOK.of (Tryz.underlying15) Tryz.type15 rfl rfl rfl rfl rfl rfl (fun h=>rfl)
theorem ty16:AE.TypeOK Tryz.prog 16 ⟨.ptr 292,1,8,[Value.pointer none]⟩:=AE.TypeOK.of (Tryz.underlying16) Tryz.type16 rfl rfl rfl rfl rfl rfl (fun h=>rfl)
theorem ty17:AE.TypeOK Tryz.prog 17 ⟨.ptr 301,1,8,[Value.pointer none]⟩:=AE.TypeOK.of (Tryz.underlying17) Tryz.type17 rfl rfl rfl rfl rfl rfl (fun h=>rfl)
theorem ty19:AE.TypeOK Tryz.prog 19 ⟨.struct [(0,1,false)] none,1,8,[Value.pointer none]⟩:=AE.TypeOK.of (AE.KindOK.struct Tryz.underlying19 ⟨⟨rfl,AE.size_of Tryz.type17 rfl,Tryz.isAgg17,fun _=>rfl⟩,trivial⟩) Tryz.type19 rfl rfl rfl rfl rfl rfl (fun h=>by cases h)
theorem ty21:AE.TypeOK Tryz.prog 21 ⟨.int IntKind.i32,1,4,[Value.int IntKind.i32 0]⟩:=AE.TypeOK.of (Tryz.underlying21) Tryz.type21 rfl rfl rfl rfl rfl rfl (fun h=>rfl)
theorem ty22:AE.TypeOK Tryz.prog 22 ⟨.slice 3,1,24,[Value.slice none 0 0]⟩:=AE.TypeOK.of (Tryz.underlying22) Tryz.type22 rfl rfl rfl rfl rfl rfl (fun h=>rfl)
theorem ty23:AE.TypeOK Tryz.prog 23 ⟨.slice 79,1,24,[Value.slice none 0 0]⟩:=AE.TypeOK.of (Tryz.underlying23) Tryz.type23 rfl rfl rfl rfl rfl rfl (fun h=>rfl)
theorem ty24:AE.TypeOK Tryz.prog 24 ⟨.slice 34,1,24,[Value.slice none 0 0]⟩:=AE.TypeOK.of (Tryz.underlying24) Tryz.type24 rfl rfl rfl rfl rfl rfl (fun h=>rfl)
theorem ty25:AE.TypeOK Tryz.prog 25 ⟨.slice 99,1,24,[Value.slice none 0 0]⟩:=AE.TypeOK.of (Tryz.underlying25) Tryz.type25 rfl rfl rfl rfl rfl rfl (fun h=>rfl)
theorem ty26:AE.TypeOK Tryz.prog 26 ⟨.slice 68,1,24,[Value.slice none 0 0]⟩:=AE.TypeOK.of (Tryz.underlying26) Tryz.type26 rfl rfl rfl rfl rfl rfl (fun h=>rfl)
theorem ty27:AE.TypeOK Tryz.prog 27 ⟨.slice 48,1,24,[Value.slice none 0 0]⟩:=AE.TypeOK.of (Tryz.underlying27) Tryz.type27 rfl rfl rfl rfl rfl rfl (fun h=>rfl)
theorem ty29:AE.TypeOK Tryz.prog 29 ⟨.struct [(0,1,false),(1,1,false),(2,1,false)] (some [4,9,9]),3,40,[Value.bool false,Value.string { data:=#[] },Value.string { data:=#[] }]⟩:=AE.TypeOK.of (AE.KindOK.structEq Tryz.underlying29 ⟨⟨rfl,AE.size_of Tryz.type4 rfl,Tryz.isAgg4,fun _=>rfl⟩,⟨rfl,AE.size_of Tryz.type9 rfl,Tryz.isAgg9,fun _=>rfl⟩,⟨rfl,AE.size_of Tryz.type9 rfl,Tryz.isAgg9,fun _=>rfl⟩,trivial⟩ (by kernel_rfl) (by kernel_rfl) ⟨⟨rfl,by decide⟩,⟨rfl,by decide⟩,⟨rfl,by decide⟩,trivial⟩) Tryz.type29 rfl rfl rfl rfl rfl rfl (fun h=>by cases h)
theorem ty31:AE.TypeOK Tryz.prog 31 ⟨.struct [(0,1,false),(1,1,false),(2,1,false),(3,1,false),(4,1,false),(5,3,true)] none,8,160,[Value.slice none 0 0,Value.slice none 0 0,Value.slice none 0 0,Value.slice none 0 0,
 Value.slice none 0 0,Value.bool false,Value.string { data:=#[] },Value.string { data:=#[] }]⟩:=AE.TypeOK.of (AE.KindOK.struct Tryz.underlying31 ⟨⟨rfl,AE.size_of Tryz.type23 rfl,Tryz.isAgg23,fun _=>rfl⟩,⟨rfl,AE.size_of Tryz.type24 rfl,Tryz.isAgg24,fun _=>rfl⟩,⟨rfl,AE.size_of Tryz.type25 rfl,Tryz.isAgg25,fun _=>rfl⟩,⟨rfl,AE.size_of Tryz.type26 rfl,Tryz.isAgg26,fun _=>rfl⟩,⟨rfl,AE.size_of Tryz.type27 rfl,Tryz.isAgg27,fun _=>rfl⟩,⟨rfl,AE.size_of Tryz.type29 rfl,Tryz.isAgg29,fun h=>by cases h⟩,trivial⟩) Tryz.type31 rfl rfl rfl rfl rfl rfl (fun h=>by cases h)
theorem ty32:AE.TypeOK Tryz.prog 32 ⟨.slice 76,1,24,[Value.slice none 0 0]⟩:=AE.TypeOK.of (Tryz.underlying32) Tryz.type32 rfl rfl rfl rfl rfl rfl (fun h=>rfl)
theorem ty33:AE.TypeOK Tryz.prog 33 ⟨.slice 66,1,24,[Value.slice none 0 0]⟩:=AE.TypeOK.of (Tryz.underlying33) Tryz.type33 rfl rfl rfl rfl rfl rfl (fun h=>rfl)
theorem ty34:AE.TypeOK Tryz.prog 34 ⟨.slice 44,1,24,[Value.slice none 0 0]⟩:=AE.TypeOK.of (Tryz.underlying34) Tryz.type34 rfl rfl rfl rfl rfl rfl (fun h=>rfl)
theorem ty35:AE.TypeOK Tryz.prog 35 ⟨.slice 4,1,24,[Value.slice none 0 0]⟩:=AE.TypeOK.of (Tryz.underlying35) Tryz.type35 rfl rfl rfl rfl rfl rfl (fun h=>rfl)
theorem ty37:AE.TypeOK Tryz.prog 37 ⟨.struct [(0,1,false),(1,1,false),(2,1,false),(3,1,false),(4,1,false)] none,5,104,[Value.int IntKind.i64 0,Value.slice none 0 0,Value.slice none 0 0,Value.slice none 0 0,
 Value.slice none 0 0]⟩:=AE.TypeOK.of (AE.KindOK.struct Tryz.underlying37 ⟨⟨rfl,AE.size_of Tryz.type3 rfl,Tryz.isAgg3,fun _=>rfl⟩,⟨rfl,AE.size_of Tryz.type32 rfl,Tryz.isAgg32,fun _=>rfl⟩,⟨rfl,AE.size_of Tryz.type33 rfl,Tryz.isAgg33,fun _=>rfl⟩,⟨rfl,AE.size_of Tryz.type34 rfl,Tryz.isAgg34,fun _=>rfl⟩,⟨rfl,AE.size_of Tryz.type35 rfl,Tryz.isAgg35,fun _=>rfl⟩,trivial⟩) Tryz.type37 rfl rfl rfl rfl rfl rfl (fun h=>by cases h)
theorem ty40:AE.TypeOK Tryz.prog 40 ⟨.int IntKind.i64,1,8,[Value.int IntKind.i64 0]⟩:=AE.TypeOK.of (Tryz.underlying40) Tryz.type40 rfl rfl rfl rfl rfl rfl (fun h=>rfl)
theorem ty44:AE.TypeOK Tryz.prog 44 ⟨.struct [(0,3,true),(3,3,true)] (some [29,29]),6,80,[Value.bool false,Value.string { data:=#[] },Value.string { data:=#[] },Value.bool false,
 Value.string { data:=#[] },Value.string { data:=#[] }]⟩:=AE.TypeOK.of (AE.KindOK.structEq Tryz.underlying44 ⟨⟨rfl,AE.size_of Tryz.type29 rfl,Tryz.isAgg29,fun h=>by cases h⟩,⟨rfl,AE.size_of Tryz.type29 rfl,Tryz.isAgg29,fun h=>by cases h⟩,trivial⟩ (by kernel_rfl) (by kernel_rfl) ⟨⟨rfl,by decide⟩,⟨rfl,by decide⟩,trivial⟩) Tryz.type44 rfl rfl rfl rfl rfl rfl (fun h=>by cases h)
theorem ty46:AE.TypeOK Tryz.prog 46 ⟨.struct [(0,6,true),(6,6,true)] (some [44,44]),12,160,[Value.bool false,Value.string { data:=#[] },Value.string { data:=#[] },Value.bool false,
 Value.string { data:=#[] },Value.string { data:=#[] },Value.bool false,
 Value.string { data:=#[] },Value.string { data:=#[] },Value.bool false,
 Value.string { data:=#[] },Value.string { data:=#[] }]⟩:=AE.TypeOK.of (AE.KindOK.structEq Tryz.underlying46 ⟨⟨rfl,AE.size_of Tryz.type44 rfl,Tryz.isAgg44,fun h=>by cases h⟩,⟨rfl,AE.size_of Tryz.type44 rfl,Tryz.isAgg44,fun h=>by cases h⟩,trivial⟩ (by kernel_rfl) (by kernel_rfl) ⟨⟨rfl,by decide⟩,⟨rfl,by decide⟩,trivial⟩) Tryz.type46 rfl rfl rfl rfl rfl rfl (fun h=>by cases h)
theorem ty48:AE.TypeOK Tryz.prog 48 ⟨.struct [(0,1,false),(1,12,true)] (some [9,46]),13,176,[Value.string { data:=#[] },Value.bool false,Value.string { data:=#[] },Value.string { data:=#[] },
 Value.bool false,Value.string { data:=#[] },Value.string { data:=#[] },Value.bool false,
 Value.string { data:=#[] },Value.string { data:=#[] },Value.bool false,
 Value.string { data:=#[] },Value.string { data:=#[] }]⟩:=AE.TypeOK.of (AE.KindOK.structEq Tryz.underlying48 ⟨⟨rfl,AE.size_of Tryz.type9 rfl,Tryz.isAgg9,fun _=>rfl⟩,⟨rfl,AE.size_of Tryz.type46 rfl,Tryz.isAgg46,fun h=>by cases h⟩,trivial⟩ (by kernel_rfl) (by kernel_rfl) ⟨⟨rfl,by decide⟩,⟨rfl,by decide⟩,trivial⟩) Tryz.type48 rfl rfl rfl rfl rfl rfl (fun h=>by cases h)
theorem ty64:AE.TypeOK Tryz.prog 64 ⟨.struct [(0,1,false),(1,3,true)] (some [4,29]),4,48,[Value.bool false,Value.bool false,Value.string { data:=#[] },Value.string { data:=#[] }]⟩:=AE.TypeOK.of (AE.KindOK.structEq Tryz.underlying64 ⟨⟨rfl,AE.size_of Tryz.type4 rfl,Tryz.isAgg4,fun _=>rfl⟩,⟨rfl,AE.size_of Tryz.type29 rfl,Tryz.isAgg29,fun h=>by cases h⟩,trivial⟩ (by kernel_rfl) (by kernel_rfl) ⟨⟨rfl,by decide⟩,⟨rfl,by decide⟩,trivial⟩) Tryz.type64 rfl rfl rfl rfl rfl rfl (fun h=>by cases h)
theorem ty66:AE.TypeOK Tryz.prog 66 ⟨.struct [(0,6,true),(6,4,true)] (some [44,64]),10,128,[Value.bool false,Value.string { data:=#[] },Value.string { data:=#[] },Value.bool false,
 Value.string { data:=#[] },Value.string { data:=#[] },Value.bool false,Value.bool false,
 Value.string { data:=#[] },Value.string { data:=#[] }]⟩:=AE.TypeOK.of (AE.KindOK.structEq Tryz.underlying66 ⟨⟨rfl,AE.size_of Tryz.type44 rfl,Tryz.isAgg44,fun h=>by cases h⟩,⟨rfl,AE.size_of Tryz.type64 rfl,Tryz.isAgg64,fun h=>by cases h⟩,trivial⟩ (by kernel_rfl) (by kernel_rfl) ⟨⟨rfl,by decide⟩,⟨rfl,by decide⟩,trivial⟩) Tryz.type66 rfl rfl rfl rfl rfl rfl (fun h=>by cases h)
theorem ty68:AE.TypeOK Tryz.prog 68 ⟨.struct [(0,1,false),(1,10,true),(11,3,true)] (some [9,66,29]),14,184,[Value.string { data:=#[] },Value.bool false,Value.string { data:=#[] },Value.string { data:=#[] },
 Value.bool false,Value.string { data:=#[] },Value.string { data:=#[] },Value.bool false,
 Value.bool false,Value.string { data:=#[] },Value.string { data:=#[] },Value.bool false,
 Value.string { data:=#[] },Value.string { data:=#[] }]⟩:=AE.TypeOK.of (AE.KindOK.structEq Tryz.underlying68 ⟨⟨rfl,AE.size_of Tryz.type9 rfl,Tryz.isAgg9,fun _=>rfl⟩,⟨rfl,AE.size_of Tryz.type66 rfl,Tryz.isAgg66,fun h=>by cases h⟩,⟨rfl,AE.size_of Tryz.type29 rfl,Tryz.isAgg29,fun h=>by cases h⟩,trivial⟩ (by kernel_rfl) (by kernel_rfl) ⟨⟨rfl,by decide⟩,⟨rfl,by decide⟩,⟨rfl,by decide⟩,trivial⟩) Tryz.type68 rfl rfl rfl rfl rfl rfl (fun h=>by cases h)
theorem ty72:AE.TypeOK Tryz.prog 72 ⟨.int IntKind.u64,1,8,[Value.int IntKind.u64 0]⟩:=AE.TypeOK.of (Tryz.underlying72) Tryz.type72 rfl rfl rfl rfl rfl rfl (fun h=>rfl)
theorem ty74:AE.TypeOK Tryz.prog 74 ⟨.slice 29,1,24,[Value.slice none 0 0]⟩:=AE.TypeOK.of (Tryz.underlying74) Tryz.type74 rfl rfl rfl rfl rfl rfl (fun h=>rfl)
theorem ty76:AE.TypeOK Tryz.prog 76 ⟨.struct [(0,1,false),(1,1,false),(2,1,false),(3,1,false)] none,4,64,[Value.slice none 0 0,Value.slice none 0 0,Value.bool false,Value.int IntKind.i64 0]⟩:=AE.TypeOK.of (AE.KindOK.struct Tryz.underlying76 ⟨⟨rfl,AE.size_of Tryz.type74 rfl,Tryz.isAgg74,fun _=>rfl⟩,⟨rfl,AE.size_of Tryz.type74 rfl,Tryz.isAgg74,fun _=>rfl⟩,⟨rfl,AE.size_of Tryz.type4 rfl,Tryz.isAgg4,fun _=>rfl⟩,⟨rfl,AE.size_of Tryz.type3 rfl,Tryz.isAgg3,fun _=>rfl⟩,trivial⟩) Tryz.type76 rfl rfl rfl rfl rfl rfl (fun h=>by cases h)
theorem ty77:AE.TypeOK Tryz.prog 77 ⟨.slice 82,1,24,[Value.slice none 0 0]⟩:=AE.TypeOK.of (Tryz.underlying77) Tryz.type77 rfl rfl rfl rfl rfl rfl (fun h=>rfl)
theorem ty79:AE.TypeOK Tryz.prog 79 ⟨.struct [(0,1,false),(1,10,true),(11,1,false)] none,12,168,[Value.string { data:=#[] },Value.bool false,Value.string { data:=#[] },Value.string { data:=#[] },
 Value.bool false,Value.string { data:=#[] },Value.string { data:=#[] },Value.bool false,
 Value.bool false,Value.string { data:=#[] },Value.string { data:=#[] },Value.slice none 0 0]⟩:=AE.TypeOK.of (AE.KindOK.struct Tryz.underlying79 ⟨⟨rfl,AE.size_of Tryz.type9 rfl,Tryz.isAgg9,fun _=>rfl⟩,⟨rfl,AE.size_of Tryz.type66 rfl,Tryz.isAgg66,fun h=>by cases h⟩,⟨rfl,AE.size_of Tryz.type77 rfl,Tryz.isAgg77,fun _=>rfl⟩,trivial⟩) Tryz.type79 rfl rfl rfl rfl rfl rfl (fun h=>by cases h)
theorem ty80:AE.TypeOK Tryz.prog 80 ⟨.other,1,8,[Value.nilFunc]⟩:=AE.TypeOK.of (Tryz.isAgg80) Tryz.type80 rfl rfl rfl rfl rfl rfl (fun h=>rfl)
theorem ty82:AE.TypeOK Tryz.prog 82 ⟨.struct [(0,3,true),(3,3,true),(6,3,true),(9,3,true),(12,3,true),(15,1,false)] none,16,224,[Value.bool false,Value.string { data:=#[] },Value.string { data:=#[] },Value.bool false,
 Value.string { data:=#[] },Value.string { data:=#[] },Value.bool false,
 Value.string { data:=#[] },Value.string { data:=#[] },Value.bool false,
 Value.string { data:=#[] },Value.string { data:=#[] },Value.bool false,
 Value.string { data:=#[] },Value.string { data:=#[] },Value.slice none 0 0]⟩:=AE.TypeOK.of (AE.KindOK.struct Tryz.underlying82 ⟨⟨rfl,AE.size_of Tryz.type29 rfl,Tryz.isAgg29,fun h=>by cases h⟩,⟨rfl,AE.size_of Tryz.type29 rfl,Tryz.isAgg29,fun h=>by cases h⟩,⟨rfl,AE.size_of Tryz.type29 rfl,Tryz.isAgg29,fun h=>by cases h⟩,⟨rfl,AE.size_of Tryz.type29 rfl,Tryz.isAgg29,fun h=>by cases h⟩,⟨rfl,AE.size_of Tryz.type29 rfl,Tryz.isAgg29,fun h=>by cases h⟩,⟨rfl,AE.size_of Tryz.type34 rfl,Tryz.isAgg34,fun _=>rfl⟩,trivial⟩) Tryz.type82 rfl rfl rfl rfl rfl rfl (fun h=>by cases h)
theorem ty83:AE.TypeOK Tryz.prog 83 ⟨.slice 5,1,24,[Value.slice none 0 0]⟩:=AE.TypeOK.of (Tryz.underlying83) Tryz.type83 rfl rfl rfl rfl rfl rfl (fun h=>rfl)
theorem ty87:AE.TypeOK Tryz.prog 87 ⟨.slice 74,1,24,[Value.slice none 0 0]⟩:=AE.TypeOK.of (Tryz.underlying87) Tryz.type87 rfl rfl rfl rfl rfl rfl (fun h=>rfl)
theorem ty99:AE.TypeOK Tryz.prog 99 ⟨.struct [(0,1,false),(1,1,false),(2,10,true)] none,12,168,[Value.string { data:=#[] },Value.slice none 0 0,Value.bool false,Value.string { data:=#[] },
 Value.string { data:=#[] },Value.bool false,Value.string { data:=#[] },
 Value.string { data:=#[] },Value.bool false,Value.bool false,Value.string { data:=#[] },
 Value.string { data:=#[] }]⟩:=AE.TypeOK.of (AE.KindOK.struct Tryz.underlying99 ⟨⟨rfl,AE.size_of Tryz.type9 rfl,Tryz.isAgg9,fun _=>rfl⟩,⟨rfl,AE.size_of Tryz.type34 rfl,Tryz.isAgg34,fun _=>rfl⟩,⟨rfl,AE.size_of Tryz.type66 rfl,Tryz.isAgg66,fun h=>by cases h⟩,trivial⟩) Tryz.type99 rfl rfl rfl rfl rfl rfl (fun h=>by cases h)
theorem ty107:AE.TypeOK Tryz.prog 107 ⟨.other,1,8,[Value.nilFunc]⟩:=AE.TypeOK.of (Tryz.isAgg107) Tryz.type107 rfl rfl rfl rfl rfl rfl (fun h=>rfl)
theorem ty112:AE.TypeOK Tryz.prog 112 ⟨.slice 118,1,24,[Value.slice none 0 0]⟩:=AE.TypeOK.of (Tryz.underlying112) Tryz.type112 rfl rfl rfl rfl rfl rfl (fun h=>rfl)
theorem ty118:AE.TypeOK Tryz.prog 118 ⟨.struct [(0,1,false),(1,1,false)] (some [3,3]),2,16,[Value.int IntKind.i64 0,Value.int IntKind.i64 0]⟩:=AE.TypeOK.of (AE.KindOK.structEq Tryz.underlying118 ⟨⟨rfl,AE.size_of Tryz.type3 rfl,Tryz.isAgg3,fun _=>rfl⟩,⟨rfl,AE.size_of Tryz.type3 rfl,Tryz.isAgg3,fun _=>rfl⟩,trivial⟩ (by kernel_rfl) (by kernel_rfl) ⟨⟨rfl,by decide⟩,⟨rfl,by decide⟩,trivial⟩) Tryz.type118 rfl rfl rfl rfl rfl rfl (fun h=>by cases h)
theorem ty138:AE.TypeOK Tryz.prog 138 ⟨.other,1,8,[Value.nilFunc]⟩:=AE.TypeOK.of (Tryz.isAgg138) Tryz.type138 rfl rfl rfl rfl rfl rfl (fun h=>rfl)
theorem ty143:AE.TypeOK Tryz.prog 143 ⟨.ptr 145,1,8,[Value.pointer none]⟩:=AE.TypeOK.of (Tryz.underlying143) Tryz.type143 rfl rfl rfl rfl rfl rfl (fun h=>rfl)
theorem ty145:AE.TypeOK Tryz.prog 145 ⟨.struct [(0,1,false)] none,1,24,[Value.slice none 0 0]⟩:=AE.TypeOK.of (AE.KindOK.struct Tryz.underlying145 ⟨⟨rfl,AE.size_of Tryz.type83 rfl,Tryz.isAgg83,fun _=>rfl⟩,trivial⟩) Tryz.type145 rfl rfl rfl rfl rfl rfl (fun h=>by cases h)
theorem ty156:AE.TypeOK Tryz.prog 156 ⟨.map 3 4,1,8,[Value.map none]⟩:=AE.TypeOK.of (AE.KindOK.map Tryz.underlying156 Tryz.type4 rfl rfl) Tryz.type156 rfl rfl rfl rfl rfl rfl (fun h=>rfl)
theorem ty159:AE.TypeOK Tryz.prog 159 ⟨.other,1,8,[Value.nilFunc]⟩:=AE.TypeOK.of (Tryz.isAgg159) Tryz.type159 rfl rfl rfl rfl rfl rfl (fun h=>rfl)
theorem ty162:AE.TypeOK Tryz.prog 162 ⟨.other,1,8,[Value.nilFunc]⟩:=AE.TypeOK.of (Tryz.isAgg162) Tryz.type162 rfl rfl rfl rfl rfl rfl (fun h=>rfl)
theorem ty176:AE.TypeOK Tryz.prog 176 ⟨.slice 9,1,24,[Value.slice none 0 0]⟩:=AE.TypeOK.of (Tryz.underlying176) Tryz.type176 rfl rfl rfl rfl rfl rfl (fun h=>rfl)
theorem ty180:AE.TypeOK Tryz.prog 180 ⟨.other,1,8,[Value.nilFunc]⟩:=AE.TypeOK.of (Tryz.isAgg180) Tryz.type180 rfl rfl rfl rfl rfl rfl (fun h=>rfl)
theorem ty181:AE.TypeOK Tryz.prog 181 ⟨.other,1,8,[Value.nilFunc]⟩:=AE.TypeOK.of (Tryz.isAgg181) Tryz.type181 rfl rfl rfl rfl rfl rfl (fun h=>rfl)
theorem ty186:AE.TypeOK Tryz.prog 186 ⟨.ptr 188,1,8,[Value.pointer none]⟩:=AE.TypeOK.of (Tryz.underlying186) Tryz.type186 rfl rfl rfl rfl rfl rfl (fun h=>rfl)
theorem ty188:AE.TypeOK Tryz.prog 188 ⟨.struct [(0,1,false)] none,1,24,[Value.slice none 0 0]⟩:=AE.TypeOK.of (AE.KindOK.struct Tryz.underlying188 ⟨⟨rfl,AE.size_of Tryz.type22 rfl,Tryz.isAgg22,fun _=>rfl⟩,trivial⟩) Tryz.type188 rfl rfl rfl rfl rfl rfl (fun h=>by cases h)
theorem ty195:AE.TypeOK Tryz.prog 195 ⟨.map 9 4,1,8,[Value.map none]⟩:=AE.TypeOK.of (AE.KindOK.map Tryz.underlying195 Tryz.type4 rfl rfl) Tryz.type195 rfl rfl rfl rfl rfl rfl (fun h=>rfl)
theorem ty199:AE.TypeOK Tryz.prog 199 ⟨.other,1,8,[Value.nilFunc]⟩:=AE.TypeOK.of (Tryz.isAgg199) Tryz.type199 rfl rfl rfl rfl rfl rfl (fun h=>rfl)
theorem ty201:AE.TypeOK Tryz.prog 201 ⟨.other,1,8,[Value.nilFunc]⟩:=AE.TypeOK.of (Tryz.isAgg201) Tryz.type201 rfl rfl rfl rfl rfl rfl (fun h=>rfl)
theorem ty203:AE.TypeOK Tryz.prog 203 ⟨.other,1,8,[Value.nilFunc]⟩:=AE.TypeOK.of (Tryz.isAgg203) Tryz.type203 rfl rfl rfl rfl rfl rfl (fun h=>rfl)
theorem ty204:AE.TypeOK Tryz.prog 204 ⟨.slice 40,1,24,[Value.slice none 0 0]⟩:=AE.TypeOK.of (Tryz.underlying204) Tryz.type204 rfl rfl rfl rfl rfl rfl (fun h=>rfl)
theorem ty213:AE.TypeOK Tryz.prog 213 ⟨.slice 215,1,24,[Value.slice none 0 0]⟩:=AE.TypeOK.of (Tryz.underlying213) Tryz.type213 rfl rfl rfl rfl rfl rfl (fun h=>rfl)
theorem ty215:AE.TypeOK Tryz.prog 215 ⟨.int IntKind.u32,1,4,[Value.int IntKind.u32 0]⟩:=AE.TypeOK.of (Tryz.underlying215) Tryz.type215 rfl rfl rfl rfl rfl rfl (fun h=>rfl)
theorem ty230:AE.TypeOK Tryz.prog 230 ⟨.other,1,8,[Value.nilFunc]⟩:=AE.TypeOK.of (Tryz.isAgg230) Tryz.type230 rfl rfl rfl rfl rfl rfl (fun h=>rfl)
theorem ty231:AE.TypeOK Tryz.prog 231 ⟨.other,1,8,[Value.nilFunc]⟩:=AE.TypeOK.of (Tryz.isAgg231) Tryz.type231 rfl rfl rfl rfl rfl rfl (fun h=>rfl)
theorem ty232:AE.TypeOK Tryz.prog 232 ⟨.other,1,8,[Value.nilFunc]⟩:=AE.TypeOK.of (Tryz.isAgg232) Tryz.type232 rfl rfl rfl rfl rfl rfl (fun h=>rfl)
theorem ty235:AE.TypeOK Tryz.prog 235 ⟨.other,1,8,[Value.nilFunc]⟩:=AE.TypeOK.of (Tryz.isAgg235) Tryz.type235 rfl rfl rfl rfl rfl rfl (fun h=>rfl)
theorem ty237:AE.TypeOK Tryz.prog 237 ⟨.other,1,8,[Value.nilFunc]⟩:=AE.TypeOK.of (Tryz.isAgg237) Tryz.type237 rfl rfl rfl rfl rfl rfl (fun h=>rfl)
theorem ty248:AE.TypeOK Tryz.prog 248 ⟨.array 8 5,8,8,[Value.int IntKind.u8 0,Value.int IntKind.u8 0,Value.int IntKind.u8 0,Value.int IntKind.u8 0,
 Value.int IntKind.u8 0,Value.int IntKind.u8 0,Value.int IntKind.u8 0,
 Value.int IntKind.u8 0]⟩:=AE.TypeOK.of (Tryz.underlying248) Tryz.type248 rfl rfl rfl rfl rfl rfl (fun h=>by cases h)
theorem ty258:AE.TypeOK Tryz.prog 258 ⟨.ptr 254,1,8,[Value.pointer none]⟩:=AE.TypeOK.of (Tryz.underlying258) Tryz.type258 rfl rfl rfl rfl rfl rfl (fun h=>rfl)
theorem ty260:AE.TypeOK Tryz.prog 260 ⟨.slice 72,1,24,[Value.slice none 0 0]⟩:=AE.TypeOK.of (Tryz.underlying260) Tryz.type260 rfl rfl rfl rfl rfl rfl (fun h=>rfl)
theorem ty280:AE.TypeOK Tryz.prog 280 ⟨.array 64 5,64,64,[Value.int IntKind.u8 0,Value.int IntKind.u8 0,Value.int IntKind.u8 0,Value.int IntKind.u8 0,
 Value.int IntKind.u8 0,Value.int IntKind.u8 0,Value.int IntKind.u8 0,
 Value.int IntKind.u8 0,Value.int IntKind.u8 0,Value.int IntKind.u8 0,
 Value.int IntKind.u8 0,Value.int IntKind.u8 0,Value.int IntKind.u8 0,
 Value.int IntKind.u8 0,Value.int IntKind.u8 0,Value.int IntKind.u8 0,
 Value.int IntKind.u8 0,Value.int IntKind.u8 0,Value.int IntKind.u8 0,
 Value.int IntKind.u8 0,Value.int IntKind.u8 0,Value.int IntKind.u8 0,
 Value.int IntKind.u8 0,Value.int IntKind.u8 0,Value.int IntKind.u8 0,
 Value.int IntKind.u8 0,Value.int IntKind.u8 0,Value.int IntKind.u8 0,
 Value.int IntKind.u8 0,Value.int IntKind.u8 0,Value.int IntKind.u8 0,
 Value.int IntKind.u8 0,Value.int IntKind.u8 0,Value.int IntKind.u8 0,
 Value.int IntKind.u8 0,Value.int IntKind.u8 0,Value.int IntKind.u8 0,
 Value.int IntKind.u8 0,Value.int IntKind.u8 0,Value.int IntKind.u8 0,
 Value.int IntKind.u8 0,Value.int IntKind.u8 0,Value.int IntKind.u8 0,
 Value.int IntKind.u8 0,Value.int IntKind.u8 0,Value.int IntKind.u8 0,
 Value.int IntKind.u8 0,Value.int IntKind.u8 0,Value.int IntKind.u8 0,
 Value.int IntKind.u8 0,Value.int IntKind.u8 0,Value.int IntKind.u8 0,
 Value.int IntKind.u8 0,Value.int IntKind.u8 0,Value.int IntKind.u8 0,
 Value.int IntKind.u8 0,Value.int IntKind.u8 0,Value.int IntKind.u8 0,
 Value.int IntKind.u8 0,Value.int IntKind.u8 0,Value.int IntKind.u8 0,
 Value.int IntKind.u8 0,Value.int IntKind.u8 0,Value.int IntKind.u8 0]⟩:=AE.TypeOK.of (Tryz.underlying280) Tryz.type280 rfl rfl rfl rfl rfl rfl (fun h=>by cases h)
theorem ty283:AE.TypeOK Tryz.prog 283 ⟨.struct [(0,1,false),(1,1,false)] (some [5,5]),2,2,[Value.int IntKind.u8 0,Value.int IntKind.u8 0]⟩:=AE.TypeOK.of (AE.KindOK.structEq Tryz.underlying283 ⟨⟨rfl,AE.size_of Tryz.type5 rfl,Tryz.isAgg5,fun _=>rfl⟩,⟨rfl,AE.size_of Tryz.type5 rfl,Tryz.isAgg5,fun _=>rfl⟩,trivial⟩ (by kernel_rfl) (by kernel_rfl) ⟨⟨rfl,by decide⟩,⟨rfl,by decide⟩,trivial⟩) Tryz.type283 rfl rfl rfl rfl rfl rfl (fun h=>by cases h)
theorem ty284:AE.TypeOK Tryz.prog 284 ⟨.array 16 283,32,32,[Value.int IntKind.u8 0,Value.int IntKind.u8 0,Value.int IntKind.u8 0,Value.int IntKind.u8 0,
 Value.int IntKind.u8 0,Value.int IntKind.u8 0,Value.int IntKind.u8 0,
 Value.int IntKind.u8 0,Value.int IntKind.u8 0,Value.int IntKind.u8 0,
 Value.int IntKind.u8 0,Value.int IntKind.u8 0,Value.int IntKind.u8 0,
 Value.int IntKind.u8 0,Value.int IntKind.u8 0,Value.int IntKind.u8 0,
 Value.int IntKind.u8 0,Value.int IntKind.u8 0,Value.int IntKind.u8 0,
 Value.int IntKind.u8 0,Value.int IntKind.u8 0,Value.int IntKind.u8 0,
 Value.int IntKind.u8 0,Value.int IntKind.u8 0,Value.int IntKind.u8 0,
 Value.int IntKind.u8 0,Value.int IntKind.u8 0,Value.int IntKind.u8 0,
 Value.int IntKind.u8 0,Value.int IntKind.u8 0,Value.int IntKind.u8 0,
 Value.int IntKind.u8 0]⟩:=AE.TypeOK.of (Tryz.underlying284) Tryz.type284 rfl rfl rfl rfl rfl rfl (fun h=>by cases h)
theorem ty289:AE.TypeOK Tryz.prog 289 ⟨.struct [(0,1,false),(1,1,false),(2,1,false),(3,1,false)] none,4,40,[Value.pointer none,Value.pointer none,Value.pointer none,Value.string { data:=#[] }]⟩:=AE.TypeOK.of (AE.KindOK.struct Tryz.underlying289 ⟨⟨rfl,AE.size_of Tryz.type17 rfl,Tryz.isAgg17,fun _=>rfl⟩,⟨rfl,AE.size_of Tryz.type17 rfl,Tryz.isAgg17,fun _=>rfl⟩,⟨rfl,AE.size_of Tryz.type17 rfl,Tryz.isAgg17,fun _=>rfl⟩,⟨rfl,AE.size_of Tryz.type9 rfl,Tryz.isAgg9,fun _=>rfl⟩,trivial⟩) Tryz.type289 rfl rfl rfl rfl rfl rfl (fun h=>by cases h)
theorem ty292:AE.TypeOK Tryz.prog 292 ⟨.struct [(0,0,true)] none,0,0,[]⟩:=AE.TypeOK.of (AE.KindOK.struct Tryz.underlying292 ⟨⟨rfl,AE.size_of Tryz.type290 rfl,Tryz.isAgg290,fun h=>by cases h⟩,trivial⟩) Tryz.type292 rfl rfl rfl rfl rfl rfl (fun h=>by cases h)
theorem ty295:AE.TypeOK Tryz.prog 295 ⟨.int IntKind.u8,1,1,[Value.int IntKind.u8 0]⟩:=AE.TypeOK.of (Tryz.underlying295) Tryz.type295 rfl rfl rfl rfl rfl rfl (fun h=>rfl)
theorem ty301:AE.TypeOK Tryz.prog 301 ⟨.struct [(0,1,false),(1,1,false),(2,1,false),(3,1,false),(4,1,false),(5,1,false),(6,1,false),(7,1,false),(8,1,false),(9,1,false),(10,1,false)] none,11,48,[Value.int IntKind.u64 0,Value.int IntKind.u64 0,Value.int IntKind.u32 0,
 Value.int IntKind.u8 0,Value.int IntKind.u8 0,Value.int IntKind.u8 0,
 Value.int IntKind.u8 0,Value.nilFunc,Value.pointer none,Value.int IntKind.i32 0,
 Value.int IntKind.i32 0]⟩:=AE.TypeOK.of (AE.KindOK.struct Tryz.underlying301 ⟨⟨rfl,AE.size_of Tryz.type12 rfl,Tryz.isAgg12,fun _=>rfl⟩,⟨rfl,AE.size_of Tryz.type12 rfl,Tryz.isAgg12,fun _=>rfl⟩,⟨rfl,AE.size_of Tryz.type215 rfl,Tryz.isAgg215,fun _=>rfl⟩,⟨rfl,AE.size_of Tryz.type294 rfl,Tryz.isAgg294,fun _=>rfl⟩,⟨rfl,AE.size_of Tryz.type5 rfl,Tryz.isAgg5,fun _=>rfl⟩,⟨rfl,AE.size_of Tryz.type5 rfl,Tryz.isAgg5,fun _=>rfl⟩,⟨rfl,AE.size_of Tryz.type295 rfl,Tryz.isAgg295,fun _=>rfl⟩,⟨rfl,AE.size_of Tryz.type296 rfl,Tryz.isAgg296,fun _=>rfl⟩,⟨rfl,AE.size_of Tryz.type297 rfl,Tryz.isAgg297,fun _=>rfl⟩,⟨rfl,AE.size_of Tryz.type298 rfl,Tryz.isAgg298,fun _=>rfl⟩,⟨rfl,AE.size_of Tryz.type299 rfl,Tryz.isAgg299,fun _=>rfl⟩,trivial⟩) Tryz.type301 rfl rfl rfl rfl rfl rfl (fun h=>by cases h)
def Tab:AE.Tab:=[
 (3,⟨.int IntKind.i64,1,8,[Value.int IntKind.i64 0]⟩),
 (29,⟨.struct [(0,1,false),(1,1,false),(2,1,false)] (some [4,9,9]),3,40,[Value.bool false,Value.string { data:=#[] },Value.string { data:=#[] }]⟩),
 (37,⟨.struct [(0,1,false),(1,1,false),(2,1,false),(3,1,false),(4,1,false)] none,5,104,[Value.int IntKind.i64 0,Value.slice none 0 0,Value.slice none 0 0,Value.slice none 0 0,
 Value.slice none 0 0]⟩),
 (31,⟨.struct [(0,1,false),(1,1,false),(2,1,false),(3,1,false),(4,1,false),(5,3,true)] none,8,160,[Value.slice none 0 0,Value.slice none 0 0,Value.slice none 0 0,Value.slice none 0 0,
 Value.slice none 0 0,Value.bool false,Value.string { data:=#[] },Value.string { data:=#[] }]⟩),
 (44,⟨.struct [(0,3,true),(3,3,true)] (some [29,29]),6,80,[Value.bool false,Value.string { data:=#[] },Value.string { data:=#[] },Value.bool false,
 Value.string { data:=#[] },Value.string { data:=#[] }]⟩),
 (9,⟨.str,1,16,[Value.string { data:=#[] }]⟩),
 (76,⟨.struct [(0,1,false),(1,1,false),(2,1,false),(3,1,false)] none,4,64,[Value.slice none 0 0,Value.slice none 0 0,Value.bool false,Value.int IntKind.i64 0]⟩),
 (4,⟨.bool,1,1,[Value.bool false]⟩),
 (74,⟨.slice 29,1,24,[Value.slice none 0 0]⟩),
 (66,⟨.struct [(0,6,true),(6,4,true)] (some [44,64]),10,128,[Value.bool false,Value.string { data:=#[] },Value.string { data:=#[] },Value.bool false,
 Value.string { data:=#[] },Value.string { data:=#[] },Value.bool false,Value.bool false,
 Value.string { data:=#[] },Value.string { data:=#[] }]⟩),
 (72,⟨.int IntKind.u64,1,8,[Value.int IntKind.u64 0]⟩),
 (32,⟨.slice 76,1,24,[Value.slice none 0 0]⟩),
 (40,⟨.int IntKind.i64,1,8,[Value.int IntKind.i64 0]⟩),
 (64,⟨.struct [(0,1,false),(1,3,true)] (some [4,29]),4,48,[Value.bool false,Value.bool false,Value.string { data:=#[] },Value.string { data:=#[] }]⟩),
 (215,⟨.int IntKind.u32,1,4,[Value.int IntKind.u32 0]⟩),
 (34,⟨.slice 44,1,24,[Value.slice none 0 0]⟩),
 (79,⟨.struct [(0,1,false),(1,10,true),(11,1,false)] none,12,168,[Value.string { data:=#[] },Value.bool false,Value.string { data:=#[] },Value.string { data:=#[] },
 Value.bool false,Value.string { data:=#[] },Value.string { data:=#[] },Value.bool false,
 Value.bool false,Value.string { data:=#[] },Value.string { data:=#[] },Value.slice none 0 0]⟩),
 (5,⟨.int IntKind.u8,1,1,[Value.int IntKind.u8 0]⟩),
 (23,⟨.slice 79,1,24,[Value.slice none 0 0]⟩),
 (213,⟨.slice 215,1,24,[Value.slice none 0 0]⟩),
 (33,⟨.slice 66,1,24,[Value.slice none 0 0]⟩),
 (82,⟨.struct [(0,3,true),(3,3,true),(6,3,true),(9,3,true),(12,3,true),(15,1,false)] none,16,224,[Value.bool false,Value.string { data:=#[] },Value.string { data:=#[] },Value.bool false,
 Value.string { data:=#[] },Value.string { data:=#[] },Value.bool false,
 Value.string { data:=#[] },Value.string { data:=#[] },Value.bool false,
 Value.string { data:=#[] },Value.string { data:=#[] },Value.bool false,
 Value.string { data:=#[] },Value.string { data:=#[] },Value.slice none 0 0]⟩),
 (25,⟨.slice 99,1,24,[Value.slice none 0 0]⟩),
 (77,⟨.slice 82,1,24,[Value.slice none 0 0]⟩),
 (35,⟨.slice 4,1,24,[Value.slice none 0 0]⟩),
 (260,⟨.slice 72,1,24,[Value.slice none 0 0]⟩),
 (83,⟨.slice 5,1,24,[Value.slice none 0 0]⟩),
 (26,⟨.slice 68,1,24,[Value.slice none 0 0]⟩),
 (21,⟨.int IntKind.i32,1,4,[Value.int IntKind.i32 0]⟩),
 (27,⟨.slice 48,1,24,[Value.slice none 0 0]⟩),
 (46,⟨.struct [(0,6,true),(6,6,true)] (some [44,44]),12,160,[Value.bool false,Value.string { data:=#[] },Value.string { data:=#[] },Value.bool false,
 Value.string { data:=#[] },Value.string { data:=#[] },Value.bool false,
 Value.string { data:=#[] },Value.string { data:=#[] },Value.bool false,
 Value.string { data:=#[] },Value.string { data:=#[] }]⟩),
 (68,⟨.struct [(0,1,false),(1,10,true),(11,3,true)] (some [9,66,29]),14,184,[Value.string { data:=#[] },Value.bool false,Value.string { data:=#[] },Value.string { data:=#[] },
 Value.bool false,Value.string { data:=#[] },Value.string { data:=#[] },Value.bool false,
 Value.bool false,Value.string { data:=#[] },Value.string { data:=#[] },Value.bool false,
 Value.string { data:=#[] },Value.string { data:=#[] }]⟩),
 (99,⟨.struct [(0,1,false),(1,1,false),(2,10,true)] none,12,168,[Value.string { data:=#[] },Value.slice none 0 0,Value.bool false,Value.string { data:=#[] },
 Value.string { data:=#[] },Value.bool false,Value.string { data:=#[] },
 Value.string { data:=#[] },Value.bool false,Value.bool false,Value.string { data:=#[] },
 Value.string { data:=#[] }]⟩),
 (48,⟨.struct [(0,1,false),(1,12,true)] (some [9,46]),13,176,[Value.string { data:=#[] },Value.bool false,Value.string { data:=#[] },Value.string { data:=#[] },
 Value.bool false,Value.string { data:=#[] },Value.string { data:=#[] },Value.bool false,
 Value.string { data:=#[] },Value.string { data:=#[] },Value.bool false,
 Value.string { data:=#[] },Value.string { data:=#[] }]⟩),
 (22,⟨.slice 3,1,24,[Value.slice none 0 0]⟩),
 (24,⟨.slice 34,1,24,[Value.slice none 0 0]⟩),
 (176,⟨.slice 9,1,24,[Value.slice none 0 0]⟩),
 (118,⟨.struct [(0,1,false),(1,1,false)] (some [3,3]),2,16,[Value.int IntKind.i64 0,Value.int IntKind.i64 0]⟩),
 (87,⟨.slice 74,1,24,[Value.slice none 0 0]⟩),
 (283,⟨.struct [(0,1,false),(1,1,false)] (some [5,5]),2,2,[Value.int IntKind.u8 0,Value.int IntKind.u8 0]⟩),
 (145,⟨.struct [(0,1,false)] none,1,24,[Value.slice none 0 0]⟩),
 (188,⟨.struct [(0,1,false)] none,1,24,[Value.slice none 0 0]⟩),
 (195,⟨.map 9 4,1,8,[Value.map none]⟩),
 (8,⟨.struct [(0,1,false),(1,1,false),(2,1,false),(3,1,false)] (some [2,3,4,6]),4,24,[Value.int IntKind.i64 0,Value.int IntKind.i64 0,Value.bool false,Value.int IntKind.u8 0]⟩),
 (10,⟨.str,1,16,[Value.string { data:=#[] }]⟩),
 (11,⟨.str,1,16,[Value.string { data:=#[] }]⟩),
 (14,⟨.struct [(0,1,false),(1,1,false)] none,2,24,[Value.string { data:=#[] },Value.int IntKind.u64 0]⟩),
 (15,⟨.ptr 289,1,8,[Value.pointer none]⟩),
 (16,⟨.ptr 292,1,8,[Value.pointer none]⟩),
 (19,⟨.struct [(0,1,false)] none,1,8,[Value.pointer none]⟩),
 (112,⟨.slice 118,1,24,[Value.slice none 0 0]⟩),
 (204,⟨.slice 40,1,24,[Value.slice none 0 0]⟩),
 (248,⟨.array 8 5,8,8,[Value.int IntKind.u8 0,Value.int IntKind.u8 0,Value.int IntKind.u8 0,Value.int IntKind.u8 0,
 Value.int IntKind.u8 0,Value.int IntKind.u8 0,Value.int IntKind.u8 0,
 Value.int IntKind.u8 0]⟩),
 (280,⟨.array 64 5,64,64,[Value.int IntKind.u8 0,Value.int IntKind.u8 0,Value.int IntKind.u8 0,Value.int IntKind.u8 0,
 Value.int IntKind.u8 0,Value.int IntKind.u8 0,Value.int IntKind.u8 0,
 Value.int IntKind.u8 0,Value.int IntKind.u8 0,Value.int IntKind.u8 0,
 Value.int IntKind.u8 0,Value.int IntKind.u8 0,Value.int IntKind.u8 0,
 Value.int IntKind.u8 0,Value.int IntKind.u8 0,Value.int IntKind.u8 0,
 Value.int IntKind.u8 0,Value.int IntKind.u8 0,Value.int IntKind.u8 0,
 Value.int IntKind.u8 0,Value.int IntKind.u8 0,Value.int IntKind.u8 0,
 Value.int IntKind.u8 0,Value.int IntKind.u8 0,Value.int IntKind.u8 0,
 Value.int IntKind.u8 0,Value.int IntKind.u8 0,Value.int IntKind.u8 0,
 Value.int IntKind.u8 0,Value.int IntKind.u8 0,Value.int IntKind.u8 0,
 Value.int IntKind.u8 0,Value.int IntKind.u8 0,Value.int IntKind.u8 0,
 Value.int IntKind.u8 0,Value.int IntKind.u8 0,Value.int IntKind.u8 0,
 Value.int IntKind.u8 0,Value.int IntKind.u8 0,Value.int IntKind.u8 0,
 Value.int IntKind.u8 0,Value.int IntKind.u8 0,Value.int IntKind.u8 0,
 Value.int IntKind.u8 0,Value.int IntKind.u8 0,Value.int IntKind.u8 0,
 Value.int IntKind.u8 0,Value.int IntKind.u8 0,Value.int IntKind.u8 0,
 Value.int IntKind.u8 0,Value.int IntKind.u8 0,Value.int IntKind.u8 0,
 Value.int IntKind.u8 0,Value.int IntKind.u8 0,Value.int IntKind.u8 0,
 Value.int IntKind.u8 0,Value.int IntKind.u8 0,Value.int IntKind.u8 0,
 Value.int IntKind.u8 0,Value.int IntKind.u8 0,Value.int IntKind.u8 0,
 Value.int IntKind.u8 0,Value.int IntKind.u8 0,Value.int IntKind.u8 0]⟩),
 (284,⟨.array 16 283,32,32,[Value.int IntKind.u8 0,Value.int IntKind.u8 0,Value.int IntKind.u8 0,Value.int IntKind.u8 0,
 Value.int IntKind.u8 0,Value.int IntKind.u8 0,Value.int IntKind.u8 0,
 Value.int IntKind.u8 0,Value.int IntKind.u8 0,Value.int IntKind.u8 0,
 Value.int IntKind.u8 0,Value.int IntKind.u8 0,Value.int IntKind.u8 0,
 Value.int IntKind.u8 0,Value.int IntKind.u8 0,Value.int IntKind.u8 0,
 Value.int IntKind.u8 0,Value.int IntKind.u8 0,Value.int IntKind.u8 0,
 Value.int IntKind.u8 0,Value.int IntKind.u8 0,Value.int IntKind.u8 0,
 Value.int IntKind.u8 0,Value.int IntKind.u8 0,Value.int IntKind.u8 0,
 Value.int IntKind.u8 0,Value.int IntKind.u8 0,Value.int IntKind.u8 0,
 Value.int IntKind.u8 0,Value.int IntKind.u8 0,Value.int IntKind.u8 0,
 Value.int IntKind.u8 0]⟩),
 (17,⟨.ptr 301,1,8,[Value.pointer none]⟩),
 (295,⟨.int IntKind.u8,1,1,[Value.int IntKind.u8 0]⟩),
 (186,⟨.ptr 188,1,8,[Value.pointer none]⟩),
 (2,⟨.int IntKind.i64,1,8,[Value.int IntKind.i64 0]⟩),
 (6,⟨.int IntKind.u8,1,1,[Value.int IntKind.u8 0]⟩),
 (80,⟨.other,1,8,[Value.nilFunc]⟩),
 (107,⟨.other,1,8,[Value.nilFunc]⟩),
 (138,⟨.other,1,8,[Value.nilFunc]⟩),
 (143,⟨.ptr 145,1,8,[Value.pointer none]⟩),
 (156,⟨.map 3 4,1,8,[Value.map none]⟩),
 (159,⟨.other,1,8,[Value.nilFunc]⟩),
 (162,⟨.other,1,8,[Value.nilFunc]⟩),
 (180,⟨.other,1,8,[Value.nilFunc]⟩),
 (181,⟨.other,1,8,[Value.nilFunc]⟩),
 (199,⟨.other,1,8,[Value.nilFunc]⟩),
 (201,⟨.other,1,8,[Value.nilFunc]⟩),
 (203,⟨.other,1,8,[Value.nilFunc]⟩),
 (230,⟨.other,1,8,[Value.nilFunc]⟩),
 (231,⟨.other,1,8,[Value.nilFunc]⟩),
 (232,⟨.other,1,8,[Value.nilFunc]⟩),
 (235,⟨.other,1,8,[Value.nilFunc]⟩),
 (237,⟨.other,1,8,[Value.nilFunc]⟩),
 (258,⟨.ptr 254,1,8,[Value.pointer none]⟩),
 (289,⟨.struct [(0,1,false),(1,1,false),(2,1,false),(3,1,false)] none,4,40,[Value.pointer none,Value.pointer none,Value.pointer none,Value.string { data:=#[] }]⟩),
 (292,⟨.struct [(0,0,true)] none,0,0,[]⟩),
 (301,⟨.struct [(0,1,false),(1,1,false),(2,1,false),(3,1,false),(4,1,false),(5,1,false),(6,1,false),(7,1,false),(8,1,false),(9,1,false),(10,1,false)] none,11,48,[Value.int IntKind.u64 0,Value.int IntKind.u64 0,Value.int IntKind.u32 0,
 Value.int IntKind.u8 0,Value.int IntKind.u8 0,Value.int IntKind.u8 0,
 Value.int IntKind.u8 0,Value.nilFunc,Value.pointer none,Value.int IntKind.i32 0,
 Value.int IntKind.i32 0]⟩)]
theorem tabOK:AE.TabOK Tryz.prog Tab :=
 AE.TabOK.cons ty3 <|
 AE.TabOK.cons ty29 <|
 AE.TabOK.cons ty37 <|
 AE.TabOK.cons ty31 <|
 AE.TabOK.cons ty44 <|
 AE.TabOK.cons ty9 <|
 AE.TabOK.cons ty76 <|
 AE.TabOK.cons ty4 <|
 AE.TabOK.cons ty74 <|
 AE.TabOK.cons ty66 <|
 AE.TabOK.cons ty72 <|
 AE.TabOK.cons ty32 <|
 AE.TabOK.cons ty40 <|
 AE.TabOK.cons ty64 <|
 AE.TabOK.cons ty215 <|
 AE.TabOK.cons ty34 <|
 AE.TabOK.cons ty79 <|
 AE.TabOK.cons ty5 <|
 AE.TabOK.cons ty23 <|
 AE.TabOK.cons ty213 <|
 AE.TabOK.cons ty33 <|
 AE.TabOK.cons ty82 <|
 AE.TabOK.cons ty25 <|
 AE.TabOK.cons ty77 <|
 AE.TabOK.cons ty35 <|
 AE.TabOK.cons ty260 <|
 AE.TabOK.cons ty83 <|
 AE.TabOK.cons ty26 <|
 AE.TabOK.cons ty21 <|
 AE.TabOK.cons ty27 <|
 AE.TabOK.cons ty46 <|
 AE.TabOK.cons ty68 <|
 AE.TabOK.cons ty99 <|
 AE.TabOK.cons ty48 <|
 AE.TabOK.cons ty22 <|
 AE.TabOK.cons ty24 <|
 AE.TabOK.cons ty176 <|
 AE.TabOK.cons ty118 <|
 AE.TabOK.cons ty87 <|
 AE.TabOK.cons ty283 <|
 AE.TabOK.cons ty145 <|
 AE.TabOK.cons ty188 <|
 AE.TabOK.cons ty195 <|
 AE.TabOK.cons ty8 <|
 AE.TabOK.cons ty10 <|
 AE.TabOK.cons ty11 <|
 AE.TabOK.cons ty14 <|
 AE.TabOK.cons ty15 <|
 AE.TabOK.cons ty16 <|
 AE.TabOK.cons ty19 <|
 AE.TabOK.cons ty112 <|
 AE.TabOK.cons ty204 <|
 AE.TabOK.cons ty248 <|
 AE.TabOK.cons ty280 <|
 AE.TabOK.cons ty284 <|
 AE.TabOK.cons ty17 <|
 AE.TabOK.cons ty295 <|
 AE.TabOK.cons ty186 <|
 AE.TabOK.cons ty2 <|
 AE.TabOK.cons ty6 <|
 AE.TabOK.cons ty80 <|
 AE.TabOK.cons ty107 <|
 AE.TabOK.cons ty138 <|
 AE.TabOK.cons ty143 <|
 AE.TabOK.cons ty156 <|
 AE.TabOK.cons ty159 <|
 AE.TabOK.cons ty162 <|
 AE.TabOK.cons ty180 <|
 AE.TabOK.cons ty181 <|
 AE.TabOK.cons ty199 <|
 AE.TabOK.cons ty201 <|
 AE.TabOK.cons ty203 <|
 AE.TabOK.cons ty230 <|
 AE.TabOK.cons ty231 <|
 AE.TabOK.cons ty232 <|
 AE.TabOK.cons ty235 <|
 AE.TabOK.cons ty237 <|
 AE.TabOK.cons ty258 <|
 AE.TabOK.cons ty289 <|
 AE.TabOK.cons ty292 <|
 AE.TabOK.cons ty301 <|
 AE.TabOK.nil
end Go.Proofs.YthadehkggddgoaaGreatDoor
