/- The types of the program Tryz, made by gentab.py; no condition. -/
import Derived.Test.YtlbbdkecjpaglaaGreatChecked
import Derived.Eval
import Derived.Test.YtlbbdkecjpaglaaGreatHae

set_option linter.all false

section
open Go.Proofs
namespace Go.Sx
def Tryztree : Tr := (.node 98 ⟨4, 64, .struct [(0, 4), (1, 64)], [.bool false, .int .u32 0, .slice none 0 0, .slice none 0 0], false⟩ (.node 25 ⟨1, 2, .int .u16, [.int .u16 0], false⟩ (.node 13 ⟨2, 24, .struct [(0, 9), (1, 12)], [.string {data := #[]}, .int .u64 0], false⟩ (.node 7 ⟨4, 24, .struct [(0, 2), (1, 3), (2, 4), (3, 6)], [.int .i64 0, .int .i64 0, .bool false, .int .u8 0], false⟩ (.node 4 ⟨1, 1, .bool, [.bool false], false⟩ (.node 3 ⟨1, 8, .int .i64, [.int .i64 0], false⟩ (.node 2 ⟨1, 8, .int .i64, [.int .i64 0], false⟩ .leaf .leaf) .leaf) (.node 6 ⟨1, 1, .int .u8, [.int .u8 0], false⟩ (.node 5 ⟨1, 1, .int .u8, [.int .u8 0], false⟩ .leaf .leaf) .leaf)) (.node 10 ⟨1, 16, .str, [.string {data := #[]}], false⟩ (.node 9 ⟨1, 16, .str, [.string {data := #[]}], false⟩ (.node 8 ⟨4, 24, .struct [(0, 2), (1, 3), (2, 4), (3, 6)], [.int .i64 0, .int .i64 0, .bool false, .int .u8 0], false⟩ .leaf .leaf) .leaf) (.node 12 ⟨1, 8, .int .u64, [.int .u64 0], false⟩ (.node 11 ⟨1, 16, .str, [.string {data := #[]}], false⟩ .leaf .leaf) .leaf))) (.node 19 ⟨1, 8, .struct [(0, 17)], [.pointer none], false⟩ (.node 16 ⟨1, 8, .ptr 198, [.pointer none], false⟩ (.node 15 ⟨1, 8, .ptr 195, [.pointer none], false⟩ (.node 14 ⟨2, 24, .struct [(0, 9), (1, 12)], [.string {data := #[]}, .int .u64 0], false⟩ .leaf .leaf) .leaf) (.node 18 ⟨1, 8, .struct [(0, 17)], [.pointer none], false⟩ (.node 17 ⟨1, 8, .ptr 206, [.pointer none], false⟩ .leaf .leaf) .leaf)) (.node 22 ⟨1, 4, .int .u32, [.int .u32 0], false⟩ (.node 21 ⟨1, 4, .int .i32, [.int .i32 0], false⟩ (.node 20 ⟨1, 16, .iface, [.nilIface], false⟩ .leaf .leaf) .leaf) (.node 24 ⟨1, 1, .int .u8, [.int .u8 0], false⟩ (.node 23 ⟨1, 8, .int .u64, [.int .u64 0], false⟩ .leaf .leaf) .leaf)))) (.node 37 ⟨28, 320, .struct [(0, 5), (1, 22), (2, 22), (3, 23), (4, 5), (5, 22), (6, 9), (7, 27), (13, 28), (14, 22), (15, 29), (16, 25), (17, 25), (18, 32), (21, 22), (22, 22), (23, 33), (24, 23), (25, 30), (26, 34), (27, 35)], [.int .u8 0, .int .u32 0, .int .u32 0, .int .u64 0, .int .u8 0, .int .u32 0, .string {data := #[]}, .string {data := #[]}, .int .u8 0, .int .u8 0, .bool false, .int .u8 0, .int .u16 0, .slice none 0 0, .int .u32 0, .slice none 0 0, .int .u16 0, .int .u16 0, .slice none 0 0, .slice none 0 0, .slice none 0 0, .int .u32 0, .int .u32 0, .slice none 0 0, .int .u64 0, .slice none 0 0, .slice none 0 0, .slice none 0 0], false⟩ (.node 31 ⟨3, 72, .struct [(0, 30), (1, 30), (2, 30)], [.slice none 0 0, .slice none 0 0, .slice none 0 0], false⟩ (.node 28 ⟨1, 24, .slice 99, [.slice none 0 0], false⟩ (.node 27 ⟨6, 24, .struct [(0, 9), (1, 5), (2, 24), (3, 4), (4, 5), (5, 25)], [.string {data := #[]}, .int .u8 0, .int .u8 0, .bool false, .int .u8 0, .int .u16 0], true⟩ (.node 26 ⟨6, 24, .struct [(0, 9), (1, 5), (2, 24), (3, 4), (4, 5), (5, 25)], [.string {data := #[]}, .int .u8 0, .int .u8 0, .bool false, .int .u8 0, .int .u16 0], false⟩ .leaf .leaf) .leaf) (.node 30 ⟨1, 24, .slice 9, [.slice none 0 0], false⟩ (.node 29 ⟨1, 24, .slice 21, [.slice none 0 0], false⟩ .leaf .leaf) .leaf)) (.node 34 ⟨1, 24, .slice 64, [.slice none 0 0], false⟩ (.node 33 ⟨1, 24, .slice 5, [.slice none 0 0], false⟩ (.node 32 ⟨3, 72, .struct [(0, 30), (1, 30), (2, 30)], [.slice none 0 0, .slice none 0 0, .slice none 0 0], false⟩ .leaf .leaf) .leaf) (.node 36 ⟨28, 320, .struct [(0, 5), (1, 22), (2, 22), (3, 23), (4, 5), (5, 22), (6, 9), (7, 27), (13, 28), (14, 22), (15, 29), (16, 25), (17, 25), (18, 32), (21, 22), (22, 22), (23, 33), (24, 23), (25, 30), (26, 34), (27, 35)], [.int .u8 0, .int .u32 0, .int .u32 0, .int .u64 0, .int .u8 0, .int .u32 0, .string {data := #[]}, .string {data := #[]}, .int .u8 0, .int .u8 0, .bool false, .int .u8 0, .int .u16 0, .slice none 0 0, .int .u32 0, .slice none 0 0, .int .u16 0, .int .u16 0, .slice none 0 0, .slice none 0 0, .slice none 0 0, .int .u32 0, .int .u32 0, .slice none 0 0, .int .u64 0, .slice none 0 0, .slice none 0 0, .slice none 0 0], false⟩ (.node 35 ⟨1, 24, .slice 138, [.slice none 0 0], false⟩ .leaf .leaf) .leaf))) (.node 66 ⟨1, 8, .ptr 121, [.pointer none], false⟩ (.node 56 ⟨1, 24, .slice 37, [.slice none 0 0], false⟩ (.node 45 ⟨1, 8, .ptr 72, [.pointer none], false⟩ (.node 40 ⟨1, 8, .int .i64, [.int .i64 0], false⟩ .leaf .leaf) .leaf) (.node 64 ⟨3, 56, .struct [(0, 22), (1, 29), (2, 30)], [.int .u32 0, .slice none 0 0, .slice none 0 0], false⟩ (.node 63 ⟨3, 56, .struct [(0, 22), (1, 29), (2, 30)], [.int .u32 0, .slice none 0 0, .slice none 0 0], false⟩ .leaf .leaf) .leaf)) (.node 72 ⟨3, 40, .struct [(0, 33), (1, 40), (2, 66)], [.slice none 0 0, .int .i64 0, .pointer none], false⟩ (.node 71 ⟨3, 40, .struct [(0, 33), (1, 40), (2, 66)], [.slice none 0 0, .int .i64 0, .pointer none], false⟩ (.node 69 ⟨1, 8, .int .u64, [.int .u64 0], false⟩ .leaf .leaf) .leaf) (.node 73 ⟨1, 8, .int .i64, [.int .i64 0], false⟩ .leaf .leaf))))) (.node 127 ⟨1, 8, .ptr 129, [.pointer none], false⟩ (.node 114 ⟨2, 8, .struct [(0, 21), (1, 22)], [.int .i32 0, .int .u32 0], false⟩ (.node 108 ⟨0, 0, .struct [], [], false⟩ (.node 103 ⟨2, 32, .struct [(0, 33), (1, 4)], [.slice none 0 0, .bool false], false⟩ (.node 102 ⟨1, 8, .ptr 104, [.pointer none], false⟩ (.node 99 ⟨4, 64, .struct [(0, 4), (1, 64)], [.bool false, .int .u32 0, .slice none 0 0, .slice none 0 0], false⟩ .leaf .leaf) .leaf) (.node 106 ⟨1, 8, .ptr 37, [.pointer none], false⟩ (.node 104 ⟨2, 32, .struct [(0, 33), (1, 4)], [.slice none 0 0, .bool false], false⟩ .leaf .leaf) .leaf)) (.node 111 ⟨1, 4, .struct [(0, 110), (0, 22)], [.int .u32 0], false⟩ (.node 110 ⟨0, 0, .struct [], [], false⟩ (.node 109 ⟨0, 0, .struct [], [], false⟩ .leaf .leaf) .leaf) (.node 113 ⟨2, 8, .struct [(0, 21), (1, 22)], [.int .i32 0, .int .u32 0], false⟩ (.node 112 ⟨1, 4, .struct [(0, 110), (0, 22)], [.int .u32 0], false⟩ .leaf .leaf) .leaf))) (.node 120 ⟨260, 1040, .struct [(0, 118), (3, 112), (4, 119)], [.int .u32 0, .int .i32 0, .int .u32 0] ++ [.int .u32 0] ++ List.replicate 256 (.int .u32 0), false⟩ (.node 117 ⟨3, 12, .struct [(0, 109), (0, 112), (1, 116)], [.int .u32 0, .int .i32 0, .int .u32 0], false⟩ (.node 116 ⟨2, 8, .struct [(0, 109), (0, 114)], [.int .i32 0, .int .u32 0], false⟩ (.node 115 ⟨2, 8, .struct [(0, 109), (0, 114)], [.int .i32 0, .int .u32 0], false⟩ .leaf .leaf) .leaf) (.node 119 ⟨256, 1024, .arr 256 22, List.replicate 256 (.int .u32 0), false⟩ (.node 118 ⟨3, 12, .struct [(0, 109), (0, 112), (1, 116)], [.int .u32 0, .int .i32 0, .int .u32 0], false⟩ .leaf .leaf) .leaf)) (.node 124 ⟨2, 32, .struct [(0, 33), (1, 40)], [.slice none 0 0, .int .i64 0], false⟩ (.node 123 ⟨1, 8, .ptr 125, [.pointer none], false⟩ (.node 121 ⟨260, 1040, .struct [(0, 118), (3, 112), (4, 119)], [.int .u32 0, .int .i32 0, .int .u32 0] ++ [.int .u32 0] ++ List.replicate 256 (.int .u32 0), false⟩ .leaf .leaf) .leaf) (.node 125 ⟨2, 32, .struct [(0, 33), (1, 40)], [.slice none 0 0, .int .i64 0], false⟩ .leaf .leaf)))) (.node 195 ⟨4, 40, .struct [(0, 17), (1, 17), (2, 17), (3, 9)], [.pointer none, .pointer none, .pointer none, .string {data := #[]}], false⟩ (.node 177 ⟨1, 8, .ptr 112, [.pointer none], false⟩ (.node 137 ⟨2, 16, .struct [(0, 2), (1, 22)], [.int .i64 0, .int .u32 0], false⟩ (.node 129 ⟨2, 32, .struct [(0, 33), (1, 3)], [.slice none 0 0, .int .i64 0], false⟩ (.node 128 ⟨2, 32, .struct [(0, 33), (1, 3)], [.slice none 0 0, .int .i64 0], false⟩ .leaf .leaf) .leaf) (.node 172 ⟨1, 8, .ptr 118, [.pointer none], false⟩ (.node 138 ⟨2, 16, .struct [(0, 2), (1, 22)], [.int .i64 0, .int .u32 0], true⟩ .leaf .leaf) .leaf)) (.node 185 ⟨1, 8, .ptr 114, [.pointer none], false⟩ (.node 184 ⟨1, 8, .ptr 116, [.pointer none], false⟩ (.node 179 ⟨1, 8, .ptr 22, [.pointer none], false⟩ .leaf .leaf) .leaf) (.node 194 ⟨4, 40, .struct [(0, 17), (1, 17), (2, 17), (3, 9)], [.pointer none, .pointer none, .pointer none, .string {data := #[]}], false⟩ (.node 187 ⟨1, 8, .ptr 21, [.pointer none], false⟩ .leaf .leaf) .leaf))) (.node 202 ⟨1, 8, .ptr 5, [.pointer none], false⟩ (.node 198 ⟨0, 0, .struct [(0, 196)], [], false⟩ (.node 197 ⟨0, 0, .struct [(0, 196)], [], false⟩ (.node 196 ⟨0, 0, .arr 0 16, [], false⟩ .leaf .leaf) .leaf) (.node 200 ⟨1, 1, .int .u8, [.int .u8 0], false⟩ (.node 199 ⟨1, 1, .int .u8, [.int .u8 0], false⟩ .leaf .leaf) .leaf)) (.node 205 ⟨11, 48, .struct [(0, 12), (1, 12), (2, 22), (3, 199), (4, 5), (5, 5), (6, 200), (7, 201), (8, 202), (9, 203), (10, 204)], [.int .u64 0, .int .u64 0, .int .u32 0, .int .u8 0, .int .u8 0, .int .u8 0, .int .u8 0, .nilFunc, .pointer none, .int .i32 0, .int .i32 0], false⟩ (.node 204 ⟨1, 4, .int .i32, [.int .i32 0], false⟩ (.node 203 ⟨1, 4, .int .i32, [.int .i32 0], false⟩ .leaf .leaf) .leaf) (.node 206 ⟨11, 48, .struct [(0, 12), (1, 12), (2, 22), (3, 199), (4, 5), (5, 5), (6, 200), (7, 201), (8, 202), (9, 203), (10, 204)], [.int .u64 0, .int .u64 0, .int .u32 0, .int .u8 0, .int .u8 0, .int .u8 0, .int .u8 0, .nilFunc, .pointer none, .int .i32 0, .int .i32 0], false⟩ .leaf .leaf))))))
def Tryztab : Tab := fun t => findT t Tryztree

theorem Tryzrow2 : RowOk Tryz.prog 2 ⟨1, 8, .int .i64, [.int .i64 0], false⟩ := ⟨_, _, _, Tryz.type2, Tryz.underlying2, rfl, rfl, rfl, rfl, rfl, ⟨rfl, by decide⟩, ⟨(fun fs h p hp => by cases h), fun h => by cases h⟩⟩
theorem Tryzrow3 : RowOk Tryz.prog 3 ⟨1, 8, .int .i64, [.int .i64 0], false⟩ := ⟨_, _, _, Tryz.type3, Tryz.underlying3, rfl, rfl, rfl, rfl, rfl, ⟨rfl, by decide⟩, ⟨(fun fs h p hp => by cases h), fun h => by cases h⟩⟩
theorem Tryzrow4 : RowOk Tryz.prog 4 ⟨1, 1, .bool, [.bool false], false⟩ := ⟨_, _, _, Tryz.type4, Tryz.underlying4, rfl, rfl, rfl, rfl, rfl, ⟨rfl, by decide⟩, ⟨(fun fs h p hp => by cases h), fun h => by cases h⟩⟩
theorem Tryzrow5 : RowOk Tryz.prog 5 ⟨1, 1, .int .u8, [.int .u8 0], false⟩ := ⟨_, _, _, Tryz.type5, Tryz.underlying5, rfl, rfl, rfl, rfl, rfl, ⟨rfl, by decide⟩, ⟨(fun fs h p hp => by cases h), fun h => by cases h⟩⟩
theorem Tryzrow6 : RowOk Tryz.prog 6 ⟨1, 1, .int .u8, [.int .u8 0], false⟩ := ⟨_, _, _, Tryz.type6, Tryz.underlying6, rfl, rfl, rfl, rfl, rfl, ⟨rfl, by decide⟩, ⟨(fun fs h p hp => by cases h), fun h => by cases h⟩⟩
theorem Tryzrow7 : RowOk Tryz.prog 7 ⟨4, 24, .struct [(0, 2), (1, 3), (2, 4), (3, 6)], [.int .i64 0, .int .i64 0, .bool false, .int .u8 0], false⟩ := ⟨_, _, _, Tryz.type7, Tryz.underlying7, rfl, rfl, ⟨_, rfl, rfl⟩, rfl, rfl, ⟨rfl, by decide⟩, ⟨(fun fs h p hp => by
    cases h; simp only [List.mem_cons, List.not_mem_nil, or_false] at hp; rcases hp with rfl | rfl | rfl | rfl
    · exact ⟨_, Tryz.type2⟩
    · exact ⟨_, Tryz.type3⟩
    · exact ⟨_, Tryz.type4⟩
    · exact ⟨_, Tryz.type6⟩), fun h => by cases h⟩⟩
theorem Tryzrow8 : RowOk Tryz.prog 8 ⟨4, 24, .struct [(0, 2), (1, 3), (2, 4), (3, 6)], [.int .i64 0, .int .i64 0, .bool false, .int .u8 0], false⟩ := ⟨_, _, _, Tryz.type8, Tryz.underlying8, rfl, rfl, ⟨_, rfl, rfl⟩, rfl, rfl, ⟨rfl, by decide⟩, ⟨(fun fs h p hp => by
    cases h; simp only [List.mem_cons, List.not_mem_nil, or_false] at hp; rcases hp with rfl | rfl | rfl | rfl
    · exact ⟨_, Tryz.type2⟩
    · exact ⟨_, Tryz.type3⟩
    · exact ⟨_, Tryz.type4⟩
    · exact ⟨_, Tryz.type6⟩), fun h => by cases h⟩⟩
theorem Tryzrow9 : RowOk Tryz.prog 9 ⟨1, 16, .str, [.string {data := #[]}], false⟩ := ⟨_, _, _, Tryz.type9, Tryz.underlying9, rfl, rfl, rfl, rfl, rfl, ⟨rfl, by decide⟩, ⟨(fun fs h p hp => by cases h), fun h => by cases h⟩⟩
theorem Tryzrow10 : RowOk Tryz.prog 10 ⟨1, 16, .str, [.string {data := #[]}], false⟩ := ⟨_, _, _, Tryz.type10, Tryz.underlying10, rfl, rfl, rfl, rfl, rfl, ⟨rfl, by decide⟩, ⟨(fun fs h p hp => by cases h), fun h => by cases h⟩⟩
theorem Tryzrow11 : RowOk Tryz.prog 11 ⟨1, 16, .str, [.string {data := #[]}], false⟩ := ⟨_, _, _, Tryz.type11, Tryz.underlying11, rfl, rfl, rfl, rfl, rfl, ⟨rfl, by decide⟩, ⟨(fun fs h p hp => by cases h), fun h => by cases h⟩⟩
theorem Tryzrow12 : RowOk Tryz.prog 12 ⟨1, 8, .int .u64, [.int .u64 0], false⟩ := ⟨_, _, _, Tryz.type12, Tryz.underlying12, rfl, rfl, rfl, rfl, rfl, ⟨rfl, by decide⟩, ⟨(fun fs h p hp => by cases h), fun h => by cases h⟩⟩
theorem Tryzrow13 : RowOk Tryz.prog 13 ⟨2, 24, .struct [(0, 9), (1, 12)], [.string {data := #[]}, .int .u64 0], false⟩ := ⟨_, _, _, Tryz.type13, Tryz.underlying13, rfl, rfl, ⟨_, rfl, rfl⟩, rfl, rfl, ⟨rfl, by decide⟩, ⟨(fun fs h p hp => by
    cases h; simp only [List.mem_cons, List.not_mem_nil, or_false] at hp; rcases hp with rfl | rfl
    · exact ⟨_, Tryz.type9⟩
    · exact ⟨_, Tryz.type12⟩), fun h => by cases h⟩⟩
theorem Tryzrow14 : RowOk Tryz.prog 14 ⟨2, 24, .struct [(0, 9), (1, 12)], [.string {data := #[]}, .int .u64 0], false⟩ := ⟨_, _, _, Tryz.type14, Tryz.underlying14, rfl, rfl, ⟨_, rfl, rfl⟩, rfl, rfl, ⟨rfl, by decide⟩, ⟨(fun fs h p hp => by
    cases h; simp only [List.mem_cons, List.not_mem_nil, or_false] at hp; rcases hp with rfl | rfl
    · exact ⟨_, Tryz.type9⟩
    · exact ⟨_, Tryz.type12⟩), fun h => by cases h⟩⟩
theorem Tryzrow15 : RowOk Tryz.prog 15 ⟨1, 8, .ptr 195, [.pointer none], false⟩ := ⟨_, _, _, Tryz.type15, Tryz.underlying15, rfl, rfl, rfl, rfl, rfl, ⟨rfl, by decide⟩, ⟨(fun fs h p hp => by cases h), fun h => by cases h⟩⟩
theorem Tryzrow16 : RowOk Tryz.prog 16 ⟨1, 8, .ptr 198, [.pointer none], false⟩ := ⟨_, _, _, Tryz.type16, Tryz.underlying16, rfl, rfl, rfl, rfl, rfl, ⟨rfl, by decide⟩, ⟨(fun fs h p hp => by cases h), fun h => by cases h⟩⟩
theorem Tryzrow17 : RowOk Tryz.prog 17 ⟨1, 8, .ptr 206, [.pointer none], false⟩ := ⟨_, _, _, Tryz.type17, Tryz.underlying17, rfl, rfl, rfl, rfl, rfl, ⟨rfl, by decide⟩, ⟨(fun fs h p hp => by cases h), fun h => by cases h⟩⟩
theorem Tryzrow18 : RowOk Tryz.prog 18 ⟨1, 8, .struct [(0, 17)], [.pointer none], false⟩ := ⟨_, _, _, Tryz.type18, Tryz.underlying18, rfl, rfl, ⟨_, rfl, rfl⟩, rfl, rfl, ⟨rfl, by decide⟩, ⟨(fun fs h p hp => by
    cases h; simp only [List.mem_cons, List.not_mem_nil, or_false] at hp; rcases hp with rfl
    · exact ⟨_, Tryz.type17⟩), fun h => by cases h⟩⟩
theorem Tryzrow19 : RowOk Tryz.prog 19 ⟨1, 8, .struct [(0, 17)], [.pointer none], false⟩ := ⟨_, _, _, Tryz.type19, Tryz.underlying19, rfl, rfl, ⟨_, rfl, rfl⟩, rfl, rfl, ⟨rfl, by decide⟩, ⟨(fun fs h p hp => by
    cases h; simp only [List.mem_cons, List.not_mem_nil, or_false] at hp; rcases hp with rfl
    · exact ⟨_, Tryz.type17⟩), fun h => by cases h⟩⟩
theorem Tryzrow20 : RowOk Tryz.prog 20 ⟨1, 16, .iface, [.nilIface], false⟩ := ⟨_, _, _, Tryz.type20, Tryz.underlying20, rfl, rfl, ⟨_, rfl⟩, rfl, rfl, ⟨rfl, by decide⟩, ⟨(fun fs h p hp => by cases h), fun h => by cases h⟩⟩
theorem Tryzrow21 : RowOk Tryz.prog 21 ⟨1, 4, .int .i32, [.int .i32 0], false⟩ := ⟨_, _, _, Tryz.type21, Tryz.underlying21, rfl, rfl, rfl, rfl, rfl, ⟨rfl, by decide⟩, ⟨(fun fs h p hp => by cases h), fun h => by cases h⟩⟩
theorem Tryzrow22 : RowOk Tryz.prog 22 ⟨1, 4, .int .u32, [.int .u32 0], false⟩ := ⟨_, _, _, Tryz.type22, Tryz.underlying22, rfl, rfl, rfl, rfl, rfl, ⟨rfl, by decide⟩, ⟨(fun fs h p hp => by cases h), fun h => by cases h⟩⟩
theorem Tryzrow23 : RowOk Tryz.prog 23 ⟨1, 8, .int .u64, [.int .u64 0], false⟩ := ⟨_, _, _, Tryz.type23, Tryz.underlying23, rfl, rfl, rfl, rfl, rfl, ⟨rfl, by decide⟩, ⟨(fun fs h p hp => by cases h), fun h => by cases h⟩⟩
theorem Tryzrow24 : RowOk Tryz.prog 24 ⟨1, 1, .int .u8, [.int .u8 0], false⟩ := ⟨_, _, _, Tryz.type24, Tryz.underlying24, rfl, rfl, rfl, rfl, rfl, ⟨rfl, by decide⟩, ⟨(fun fs h p hp => by cases h), fun h => by cases h⟩⟩
theorem Tryzrow25 : RowOk Tryz.prog 25 ⟨1, 2, .int .u16, [.int .u16 0], false⟩ := ⟨_, _, _, Tryz.type25, Tryz.underlying25, rfl, rfl, rfl, rfl, rfl, ⟨rfl, by decide⟩, ⟨(fun fs h p hp => by cases h), fun h => by cases h⟩⟩
theorem Tryzrow26 : RowOk Tryz.prog 26 ⟨6, 24, .struct [(0, 9), (1, 5), (2, 24), (3, 4), (4, 5), (5, 25)], [.string {data := #[]}, .int .u8 0, .int .u8 0, .bool false, .int .u8 0, .int .u16 0], false⟩ := ⟨_, _, _, Tryz.type26, Tryz.underlying26, rfl, rfl, ⟨_, rfl, rfl⟩, rfl, rfl, ⟨rfl, by decide⟩, ⟨(fun fs h p hp => by
    cases h; simp only [List.mem_cons, List.not_mem_nil, or_false] at hp; rcases hp with rfl | rfl | rfl | rfl | rfl | rfl
    · exact ⟨_, Tryz.type9⟩
    · exact ⟨_, Tryz.type5⟩
    · exact ⟨_, Tryz.type24⟩
    · exact ⟨_, Tryz.type4⟩
    · exact ⟨_, Tryz.type5⟩
    · exact ⟨_, Tryz.type25⟩), fun h => by cases h⟩⟩
theorem Tryzrow27 : RowOk Tryz.prog 27 ⟨6, 24, .struct [(0, 9), (1, 5), (2, 24), (3, 4), (4, 5), (5, 25)], [.string {data := #[]}, .int .u8 0, .int .u8 0, .bool false, .int .u8 0, .int .u16 0], true⟩ := ⟨_, _, _, Tryz.type27, Tryz.underlying27, rfl, rfl, ⟨_, rfl, rfl⟩, rfl, rfl, ⟨rfl, by decide⟩, ⟨(fun fs h p hp => by
    cases h; simp only [List.mem_cons, List.not_mem_nil, or_false] at hp; rcases hp with rfl | rfl | rfl | rfl | rfl | rfl
    · exact ⟨_, Tryz.type9⟩
    · exact ⟨_, Tryz.type5⟩
    · exact ⟨_, Tryz.type24⟩
    · exact ⟨_, Tryz.type4⟩
    · exact ⟨_, Tryz.type5⟩
    · exact ⟨_, Tryz.type25⟩), fun _ => eqsOk_of (by decide +kernel) Tryz.underlying27 (by decide +kernel)⟩⟩
theorem Tryzrow28 : RowOk Tryz.prog 28 ⟨1, 24, .slice 99, [.slice none 0 0], false⟩ := ⟨_, _, _, Tryz.type28, Tryz.underlying28, rfl, rfl, rfl, rfl, rfl, ⟨rfl, by decide⟩, ⟨(fun fs h p hp => by cases h), fun h => by cases h⟩⟩
theorem Tryzrow29 : RowOk Tryz.prog 29 ⟨1, 24, .slice 21, [.slice none 0 0], false⟩ := ⟨_, _, _, Tryz.type29, Tryz.underlying29, rfl, rfl, rfl, rfl, rfl, ⟨rfl, by decide⟩, ⟨(fun fs h p hp => by cases h), fun h => by cases h⟩⟩
theorem Tryzrow30 : RowOk Tryz.prog 30 ⟨1, 24, .slice 9, [.slice none 0 0], false⟩ := ⟨_, _, _, Tryz.type30, Tryz.underlying30, rfl, rfl, rfl, rfl, rfl, ⟨rfl, by decide⟩, ⟨(fun fs h p hp => by cases h), fun h => by cases h⟩⟩
theorem Tryzrow31 : RowOk Tryz.prog 31 ⟨3, 72, .struct [(0, 30), (1, 30), (2, 30)], [.slice none 0 0, .slice none 0 0, .slice none 0 0], false⟩ := ⟨_, _, _, Tryz.type31, Tryz.underlying31, rfl, rfl, ⟨_, rfl, rfl⟩, rfl, rfl, ⟨rfl, by decide⟩, ⟨(fun fs h p hp => by
    cases h; simp only [List.mem_cons, List.not_mem_nil, or_false] at hp; rcases hp with rfl | rfl | rfl
    · exact ⟨_, Tryz.type30⟩
    · exact ⟨_, Tryz.type30⟩
    · exact ⟨_, Tryz.type30⟩), fun h => by cases h⟩⟩
theorem Tryzrow32 : RowOk Tryz.prog 32 ⟨3, 72, .struct [(0, 30), (1, 30), (2, 30)], [.slice none 0 0, .slice none 0 0, .slice none 0 0], false⟩ := ⟨_, _, _, Tryz.type32, Tryz.underlying32, rfl, rfl, ⟨_, rfl, rfl⟩, rfl, rfl, ⟨rfl, by decide⟩, ⟨(fun fs h p hp => by
    cases h; simp only [List.mem_cons, List.not_mem_nil, or_false] at hp; rcases hp with rfl | rfl | rfl
    · exact ⟨_, Tryz.type30⟩
    · exact ⟨_, Tryz.type30⟩
    · exact ⟨_, Tryz.type30⟩), fun h => by cases h⟩⟩
theorem Tryzrow33 : RowOk Tryz.prog 33 ⟨1, 24, .slice 5, [.slice none 0 0], false⟩ := ⟨_, _, _, Tryz.type33, Tryz.underlying33, rfl, rfl, rfl, rfl, rfl, ⟨rfl, by decide⟩, ⟨(fun fs h p hp => by cases h), fun h => by cases h⟩⟩
theorem Tryzrow34 : RowOk Tryz.prog 34 ⟨1, 24, .slice 64, [.slice none 0 0], false⟩ := ⟨_, _, _, Tryz.type34, Tryz.underlying34, rfl, rfl, rfl, rfl, rfl, ⟨rfl, by decide⟩, ⟨(fun fs h p hp => by cases h), fun h => by cases h⟩⟩
theorem Tryzrow35 : RowOk Tryz.prog 35 ⟨1, 24, .slice 138, [.slice none 0 0], false⟩ := ⟨_, _, _, Tryz.type35, Tryz.underlying35, rfl, rfl, rfl, rfl, rfl, ⟨rfl, by decide⟩, ⟨(fun fs h p hp => by cases h), fun h => by cases h⟩⟩
theorem Tryzrow36 : RowOk Tryz.prog 36 ⟨28, 320, .struct [(0, 5), (1, 22), (2, 22), (3, 23), (4, 5), (5, 22), (6, 9), (7, 27), (13, 28), (14, 22), (15, 29), (16, 25), (17, 25), (18, 32), (21, 22), (22, 22), (23, 33), (24, 23), (25, 30), (26, 34), (27, 35)], [.int .u8 0, .int .u32 0, .int .u32 0, .int .u64 0, .int .u8 0, .int .u32 0, .string {data := #[]}, .string {data := #[]}, .int .u8 0, .int .u8 0, .bool false, .int .u8 0, .int .u16 0, .slice none 0 0, .int .u32 0, .slice none 0 0, .int .u16 0, .int .u16 0, .slice none 0 0, .slice none 0 0, .slice none 0 0, .int .u32 0, .int .u32 0, .slice none 0 0, .int .u64 0, .slice none 0 0, .slice none 0 0, .slice none 0 0], false⟩ := ⟨_, _, _, Tryz.type36, Tryz.underlying36, rfl, rfl, ⟨_, rfl, rfl⟩, rfl, rfl, ⟨rfl, by decide⟩, ⟨(fun fs h p hp => by
    cases h; simp only [List.mem_cons, List.not_mem_nil, or_false] at hp; rcases hp with rfl | rfl | rfl | rfl | rfl | rfl | rfl | rfl | rfl | rfl | rfl | rfl | rfl | rfl | rfl | rfl | rfl | rfl | rfl | rfl | rfl
    · exact ⟨_, Tryz.type5⟩
    · exact ⟨_, Tryz.type22⟩
    · exact ⟨_, Tryz.type22⟩
    · exact ⟨_, Tryz.type23⟩
    · exact ⟨_, Tryz.type5⟩
    · exact ⟨_, Tryz.type22⟩
    · exact ⟨_, Tryz.type9⟩
    · exact ⟨_, Tryz.type27⟩
    · exact ⟨_, Tryz.type28⟩
    · exact ⟨_, Tryz.type22⟩
    · exact ⟨_, Tryz.type29⟩
    · exact ⟨_, Tryz.type25⟩
    · exact ⟨_, Tryz.type25⟩
    · exact ⟨_, Tryz.type32⟩
    · exact ⟨_, Tryz.type22⟩
    · exact ⟨_, Tryz.type22⟩
    · exact ⟨_, Tryz.type33⟩
    · exact ⟨_, Tryz.type23⟩
    · exact ⟨_, Tryz.type30⟩
    · exact ⟨_, Tryz.type34⟩
    · exact ⟨_, Tryz.type35⟩), fun h => by cases h⟩⟩
theorem Tryzrow37 : RowOk Tryz.prog 37 ⟨28, 320, .struct [(0, 5), (1, 22), (2, 22), (3, 23), (4, 5), (5, 22), (6, 9), (7, 27), (13, 28), (14, 22), (15, 29), (16, 25), (17, 25), (18, 32), (21, 22), (22, 22), (23, 33), (24, 23), (25, 30), (26, 34), (27, 35)], [.int .u8 0, .int .u32 0, .int .u32 0, .int .u64 0, .int .u8 0, .int .u32 0, .string {data := #[]}, .string {data := #[]}, .int .u8 0, .int .u8 0, .bool false, .int .u8 0, .int .u16 0, .slice none 0 0, .int .u32 0, .slice none 0 0, .int .u16 0, .int .u16 0, .slice none 0 0, .slice none 0 0, .slice none 0 0, .int .u32 0, .int .u32 0, .slice none 0 0, .int .u64 0, .slice none 0 0, .slice none 0 0, .slice none 0 0], false⟩ := ⟨_, _, _, Tryz.type37, Tryz.underlying37, rfl, rfl, ⟨_, rfl, rfl⟩, rfl, rfl, ⟨rfl, by decide⟩, ⟨(fun fs h p hp => by
    cases h; simp only [List.mem_cons, List.not_mem_nil, or_false] at hp; rcases hp with rfl | rfl | rfl | rfl | rfl | rfl | rfl | rfl | rfl | rfl | rfl | rfl | rfl | rfl | rfl | rfl | rfl | rfl | rfl | rfl | rfl
    · exact ⟨_, Tryz.type5⟩
    · exact ⟨_, Tryz.type22⟩
    · exact ⟨_, Tryz.type22⟩
    · exact ⟨_, Tryz.type23⟩
    · exact ⟨_, Tryz.type5⟩
    · exact ⟨_, Tryz.type22⟩
    · exact ⟨_, Tryz.type9⟩
    · exact ⟨_, Tryz.type27⟩
    · exact ⟨_, Tryz.type28⟩
    · exact ⟨_, Tryz.type22⟩
    · exact ⟨_, Tryz.type29⟩
    · exact ⟨_, Tryz.type25⟩
    · exact ⟨_, Tryz.type25⟩
    · exact ⟨_, Tryz.type32⟩
    · exact ⟨_, Tryz.type22⟩
    · exact ⟨_, Tryz.type22⟩
    · exact ⟨_, Tryz.type33⟩
    · exact ⟨_, Tryz.type23⟩
    · exact ⟨_, Tryz.type30⟩
    · exact ⟨_, Tryz.type34⟩
    · exact ⟨_, Tryz.type35⟩), fun h => by cases h⟩⟩
theorem Tryzrow40 : RowOk Tryz.prog 40 ⟨1, 8, .int .i64, [.int .i64 0], false⟩ := ⟨_, _, _, Tryz.type40, Tryz.underlying40, rfl, rfl, rfl, rfl, rfl, ⟨rfl, by decide⟩, ⟨(fun fs h p hp => by cases h), fun h => by cases h⟩⟩
theorem Tryzrow45 : RowOk Tryz.prog 45 ⟨1, 8, .ptr 72, [.pointer none], false⟩ := ⟨_, _, _, Tryz.type45, Tryz.underlying45, rfl, rfl, rfl, rfl, rfl, ⟨rfl, by decide⟩, ⟨(fun fs h p hp => by cases h), fun h => by cases h⟩⟩
theorem Tryzrow56 : RowOk Tryz.prog 56 ⟨1, 24, .slice 37, [.slice none 0 0], false⟩ := ⟨_, _, _, Tryz.type56, Tryz.underlying56, rfl, rfl, rfl, rfl, rfl, ⟨rfl, by decide⟩, ⟨(fun fs h p hp => by cases h), fun h => by cases h⟩⟩
theorem Tryzrow63 : RowOk Tryz.prog 63 ⟨3, 56, .struct [(0, 22), (1, 29), (2, 30)], [.int .u32 0, .slice none 0 0, .slice none 0 0], false⟩ := ⟨_, _, _, Tryz.type63, Tryz.underlying63, rfl, rfl, ⟨_, rfl, rfl⟩, rfl, rfl, ⟨rfl, by decide⟩, ⟨(fun fs h p hp => by
    cases h; simp only [List.mem_cons, List.not_mem_nil, or_false] at hp; rcases hp with rfl | rfl | rfl
    · exact ⟨_, Tryz.type22⟩
    · exact ⟨_, Tryz.type29⟩
    · exact ⟨_, Tryz.type30⟩), fun h => by cases h⟩⟩
theorem Tryzrow64 : RowOk Tryz.prog 64 ⟨3, 56, .struct [(0, 22), (1, 29), (2, 30)], [.int .u32 0, .slice none 0 0, .slice none 0 0], false⟩ := ⟨_, _, _, Tryz.type64, Tryz.underlying64, rfl, rfl, ⟨_, rfl, rfl⟩, rfl, rfl, ⟨rfl, by decide⟩, ⟨(fun fs h p hp => by
    cases h; simp only [List.mem_cons, List.not_mem_nil, or_false] at hp; rcases hp with rfl | rfl | rfl
    · exact ⟨_, Tryz.type22⟩
    · exact ⟨_, Tryz.type29⟩
    · exact ⟨_, Tryz.type30⟩), fun h => by cases h⟩⟩
theorem Tryzrow66 : RowOk Tryz.prog 66 ⟨1, 8, .ptr 121, [.pointer none], false⟩ := ⟨_, _, _, Tryz.type66, Tryz.underlying66, rfl, rfl, rfl, rfl, rfl, ⟨rfl, by decide⟩, ⟨(fun fs h p hp => by cases h), fun h => by cases h⟩⟩
theorem Tryzrow69 : RowOk Tryz.prog 69 ⟨1, 8, .int .u64, [.int .u64 0], false⟩ := ⟨_, _, _, Tryz.type69, Tryz.underlying69, rfl, rfl, rfl, rfl, rfl, ⟨rfl, by decide⟩, ⟨(fun fs h p hp => by cases h), fun h => by cases h⟩⟩
theorem Tryzrow71 : RowOk Tryz.prog 71 ⟨3, 40, .struct [(0, 33), (1, 40), (2, 66)], [.slice none 0 0, .int .i64 0, .pointer none], false⟩ := ⟨_, _, _, Tryz.type71, Tryz.underlying71, rfl, rfl, ⟨_, rfl, rfl⟩, rfl, rfl, ⟨rfl, by decide⟩, ⟨(fun fs h p hp => by
    cases h; simp only [List.mem_cons, List.not_mem_nil, or_false] at hp; rcases hp with rfl | rfl | rfl
    · exact ⟨_, Tryz.type33⟩
    · exact ⟨_, Tryz.type40⟩
    · exact ⟨_, Tryz.type66⟩), fun h => by cases h⟩⟩
theorem Tryzrow72 : RowOk Tryz.prog 72 ⟨3, 40, .struct [(0, 33), (1, 40), (2, 66)], [.slice none 0 0, .int .i64 0, .pointer none], false⟩ := ⟨_, _, _, Tryz.type72, Tryz.underlying72, rfl, rfl, ⟨_, rfl, rfl⟩, rfl, rfl, ⟨rfl, by decide⟩, ⟨(fun fs h p hp => by
    cases h; simp only [List.mem_cons, List.not_mem_nil, or_false] at hp; rcases hp with rfl | rfl | rfl
    · exact ⟨_, Tryz.type33⟩
    · exact ⟨_, Tryz.type40⟩
    · exact ⟨_, Tryz.type66⟩), fun h => by cases h⟩⟩
theorem Tryzrow73 : RowOk Tryz.prog 73 ⟨1, 8, .int .i64, [.int .i64 0], false⟩ := ⟨_, _, _, Tryz.type73, Tryz.underlying73, rfl, rfl, rfl, rfl, rfl, ⟨rfl, by decide⟩, ⟨(fun fs h p hp => by cases h), fun h => by cases h⟩⟩
theorem Tryzrow98 : RowOk Tryz.prog 98 ⟨4, 64, .struct [(0, 4), (1, 64)], [.bool false, .int .u32 0, .slice none 0 0, .slice none 0 0], false⟩ := ⟨_, _, _, Tryz.type98, Tryz.underlying98, rfl, rfl, ⟨_, rfl, rfl⟩, rfl, rfl, ⟨rfl, by decide⟩, ⟨(fun fs h p hp => by
    cases h; simp only [List.mem_cons, List.not_mem_nil, or_false] at hp; rcases hp with rfl | rfl
    · exact ⟨_, Tryz.type4⟩
    · exact ⟨_, Tryz.type64⟩), fun h => by cases h⟩⟩
theorem Tryzrow99 : RowOk Tryz.prog 99 ⟨4, 64, .struct [(0, 4), (1, 64)], [.bool false, .int .u32 0, .slice none 0 0, .slice none 0 0], false⟩ := ⟨_, _, _, Tryz.type99, Tryz.underlying99, rfl, rfl, ⟨_, rfl, rfl⟩, rfl, rfl, ⟨rfl, by decide⟩, ⟨(fun fs h p hp => by
    cases h; simp only [List.mem_cons, List.not_mem_nil, or_false] at hp; rcases hp with rfl | rfl
    · exact ⟨_, Tryz.type4⟩
    · exact ⟨_, Tryz.type64⟩), fun h => by cases h⟩⟩
theorem Tryzrow102 : RowOk Tryz.prog 102 ⟨1, 8, .ptr 104, [.pointer none], false⟩ := ⟨_, _, _, Tryz.type102, Tryz.underlying102, rfl, rfl, rfl, rfl, rfl, ⟨rfl, by decide⟩, ⟨(fun fs h p hp => by cases h), fun h => by cases h⟩⟩
theorem Tryzrow103 : RowOk Tryz.prog 103 ⟨2, 32, .struct [(0, 33), (1, 4)], [.slice none 0 0, .bool false], false⟩ := ⟨_, _, _, Tryz.type103, Tryz.underlying103, rfl, rfl, ⟨_, rfl, rfl⟩, rfl, rfl, ⟨rfl, by decide⟩, ⟨(fun fs h p hp => by
    cases h; simp only [List.mem_cons, List.not_mem_nil, or_false] at hp; rcases hp with rfl | rfl
    · exact ⟨_, Tryz.type33⟩
    · exact ⟨_, Tryz.type4⟩), fun h => by cases h⟩⟩
theorem Tryzrow104 : RowOk Tryz.prog 104 ⟨2, 32, .struct [(0, 33), (1, 4)], [.slice none 0 0, .bool false], false⟩ := ⟨_, _, _, Tryz.type104, Tryz.underlying104, rfl, rfl, ⟨_, rfl, rfl⟩, rfl, rfl, ⟨rfl, by decide⟩, ⟨(fun fs h p hp => by
    cases h; simp only [List.mem_cons, List.not_mem_nil, or_false] at hp; rcases hp with rfl | rfl
    · exact ⟨_, Tryz.type33⟩
    · exact ⟨_, Tryz.type4⟩), fun h => by cases h⟩⟩
theorem Tryzrow106 : RowOk Tryz.prog 106 ⟨1, 8, .ptr 37, [.pointer none], false⟩ := ⟨_, _, _, Tryz.type106, Tryz.underlying106, rfl, rfl, rfl, rfl, rfl, ⟨rfl, by decide⟩, ⟨(fun fs h p hp => by cases h), fun h => by cases h⟩⟩
theorem Tryzrow108 : RowOk Tryz.prog 108 ⟨0, 0, .struct [], [], false⟩ := ⟨_, _, _, Tryz.type108, Tryz.underlying108, rfl, rfl, ⟨_, rfl, rfl⟩, rfl, rfl, ⟨rfl, by decide⟩, ⟨(fun fs h p hp => by cases h <;> cases hp), fun h => by cases h⟩⟩
theorem Tryzrow109 : RowOk Tryz.prog 109 ⟨0, 0, .struct [], [], false⟩ := ⟨_, _, _, Tryz.type109, Tryz.underlying109, rfl, rfl, ⟨_, rfl, rfl⟩, rfl, rfl, ⟨rfl, by decide⟩, ⟨(fun fs h p hp => by cases h <;> cases hp), fun h => by cases h⟩⟩
theorem Tryzrow110 : RowOk Tryz.prog 110 ⟨0, 0, .struct [], [], false⟩ := ⟨_, _, _, Tryz.type110, Tryz.underlying110, rfl, rfl, ⟨_, rfl, rfl⟩, rfl, rfl, ⟨rfl, by decide⟩, ⟨(fun fs h p hp => by cases h <;> cases hp), fun h => by cases h⟩⟩
theorem Tryzrow111 : RowOk Tryz.prog 111 ⟨1, 4, .struct [(0, 110), (0, 22)], [.int .u32 0], false⟩ := ⟨_, _, _, Tryz.type111, Tryz.underlying111, rfl, rfl, ⟨_, rfl, rfl⟩, rfl, rfl, ⟨rfl, by decide⟩, ⟨(fun fs h p hp => by
    cases h; simp only [List.mem_cons, List.not_mem_nil, or_false] at hp; rcases hp with rfl | rfl
    · exact ⟨_, Tryz.type110⟩
    · exact ⟨_, Tryz.type22⟩), fun h => by cases h⟩⟩
theorem Tryzrow112 : RowOk Tryz.prog 112 ⟨1, 4, .struct [(0, 110), (0, 22)], [.int .u32 0], false⟩ := ⟨_, _, _, Tryz.type112, Tryz.underlying112, rfl, rfl, ⟨_, rfl, rfl⟩, rfl, rfl, ⟨rfl, by decide⟩, ⟨(fun fs h p hp => by
    cases h; simp only [List.mem_cons, List.not_mem_nil, or_false] at hp; rcases hp with rfl | rfl
    · exact ⟨_, Tryz.type110⟩
    · exact ⟨_, Tryz.type22⟩), fun h => by cases h⟩⟩
theorem Tryzrow113 : RowOk Tryz.prog 113 ⟨2, 8, .struct [(0, 21), (1, 22)], [.int .i32 0, .int .u32 0], false⟩ := ⟨_, _, _, Tryz.type113, Tryz.underlying113, rfl, rfl, ⟨_, rfl, rfl⟩, rfl, rfl, ⟨rfl, by decide⟩, ⟨(fun fs h p hp => by
    cases h; simp only [List.mem_cons, List.not_mem_nil, or_false] at hp; rcases hp with rfl | rfl
    · exact ⟨_, Tryz.type21⟩
    · exact ⟨_, Tryz.type22⟩), fun h => by cases h⟩⟩
theorem Tryzrow114 : RowOk Tryz.prog 114 ⟨2, 8, .struct [(0, 21), (1, 22)], [.int .i32 0, .int .u32 0], false⟩ := ⟨_, _, _, Tryz.type114, Tryz.underlying114, rfl, rfl, ⟨_, rfl, rfl⟩, rfl, rfl, ⟨rfl, by decide⟩, ⟨(fun fs h p hp => by
    cases h; simp only [List.mem_cons, List.not_mem_nil, or_false] at hp; rcases hp with rfl | rfl
    · exact ⟨_, Tryz.type21⟩
    · exact ⟨_, Tryz.type22⟩), fun h => by cases h⟩⟩
theorem Tryzrow115 : RowOk Tryz.prog 115 ⟨2, 8, .struct [(0, 109), (0, 114)], [.int .i32 0, .int .u32 0], false⟩ := ⟨_, _, _, Tryz.type115, Tryz.underlying115, rfl, rfl, ⟨_, rfl, rfl⟩, rfl, rfl, ⟨rfl, by decide⟩, ⟨(fun fs h p hp => by
    cases h; simp only [List.mem_cons, List.not_mem_nil, or_false] at hp; rcases hp with rfl | rfl
    · exact ⟨_, Tryz.type109⟩
    · exact ⟨_, Tryz.type114⟩), fun h => by cases h⟩⟩
theorem Tryzrow116 : RowOk Tryz.prog 116 ⟨2, 8, .struct [(0, 109), (0, 114)], [.int .i32 0, .int .u32 0], false⟩ := ⟨_, _, _, Tryz.type116, Tryz.underlying116, rfl, rfl, ⟨_, rfl, rfl⟩, rfl, rfl, ⟨rfl, by decide⟩, ⟨(fun fs h p hp => by
    cases h; simp only [List.mem_cons, List.not_mem_nil, or_false] at hp; rcases hp with rfl | rfl
    · exact ⟨_, Tryz.type109⟩
    · exact ⟨_, Tryz.type114⟩), fun h => by cases h⟩⟩
theorem Tryzrow117 : RowOk Tryz.prog 117 ⟨3, 12, .struct [(0, 109), (0, 112), (1, 116)], [.int .u32 0, .int .i32 0, .int .u32 0], false⟩ := ⟨_, _, _, Tryz.type117, Tryz.underlying117, rfl, rfl, ⟨_, rfl, rfl⟩, rfl, rfl, ⟨rfl, by decide⟩, ⟨(fun fs h p hp => by
    cases h; simp only [List.mem_cons, List.not_mem_nil, or_false] at hp; rcases hp with rfl | rfl | rfl
    · exact ⟨_, Tryz.type109⟩
    · exact ⟨_, Tryz.type112⟩
    · exact ⟨_, Tryz.type116⟩), fun h => by cases h⟩⟩
theorem Tryzrow118 : RowOk Tryz.prog 118 ⟨3, 12, .struct [(0, 109), (0, 112), (1, 116)], [.int .u32 0, .int .i32 0, .int .u32 0], false⟩ := ⟨_, _, _, Tryz.type118, Tryz.underlying118, rfl, rfl, ⟨_, rfl, rfl⟩, rfl, rfl, ⟨rfl, by decide⟩, ⟨(fun fs h p hp => by
    cases h; simp only [List.mem_cons, List.not_mem_nil, or_false] at hp; rcases hp with rfl | rfl | rfl
    · exact ⟨_, Tryz.type109⟩
    · exact ⟨_, Tryz.type112⟩
    · exact ⟨_, Tryz.type116⟩), fun h => by cases h⟩⟩
theorem Tryzrow119 : RowOk Tryz.prog 119 ⟨256, 1024, .arr 256 22, List.replicate 256 (.int .u32 0), false⟩ := ⟨_, _, _, Tryz.type119, Tryz.underlying119, rfl, rfl, rfl, rfl, by kernel_rfl, ⟨by decide +kernel, by decide +kernel⟩, ⟨(fun fs h p hp => by cases h), fun h => by cases h⟩⟩
theorem Tryzrow120 : RowOk Tryz.prog 120 ⟨260, 1040, .struct [(0, 118), (3, 112), (4, 119)], [.int .u32 0, .int .i32 0, .int .u32 0] ++ [.int .u32 0] ++ List.replicate 256 (.int .u32 0), false⟩ := ⟨_, _, _, Tryz.type120, Tryz.underlying120, rfl, rfl, ⟨_, rfl, rfl⟩, rfl, by kernel_rfl, ⟨by decide +kernel, by decide +kernel⟩, ⟨(fun fs h p hp => by
    cases h; simp only [List.mem_cons, List.not_mem_nil, or_false] at hp; rcases hp with rfl | rfl | rfl
    · exact ⟨_, Tryz.type118⟩
    · exact ⟨_, Tryz.type112⟩
    · exact ⟨_, Tryz.type119⟩), fun h => by cases h⟩⟩
theorem Tryzrow121 : RowOk Tryz.prog 121 ⟨260, 1040, .struct [(0, 118), (3, 112), (4, 119)], [.int .u32 0, .int .i32 0, .int .u32 0] ++ [.int .u32 0] ++ List.replicate 256 (.int .u32 0), false⟩ := ⟨_, _, _, Tryz.type121, Tryz.underlying121, rfl, rfl, ⟨_, rfl, rfl⟩, rfl, by kernel_rfl, ⟨by decide +kernel, by decide +kernel⟩, ⟨(fun fs h p hp => by
    cases h; simp only [List.mem_cons, List.not_mem_nil, or_false] at hp; rcases hp with rfl | rfl | rfl
    · exact ⟨_, Tryz.type118⟩
    · exact ⟨_, Tryz.type112⟩
    · exact ⟨_, Tryz.type119⟩), fun h => by cases h⟩⟩
theorem Tryzrow123 : RowOk Tryz.prog 123 ⟨1, 8, .ptr 125, [.pointer none], false⟩ := ⟨_, _, _, Tryz.type123, Tryz.underlying123, rfl, rfl, rfl, rfl, rfl, ⟨rfl, by decide⟩, ⟨(fun fs h p hp => by cases h), fun h => by cases h⟩⟩
theorem Tryzrow124 : RowOk Tryz.prog 124 ⟨2, 32, .struct [(0, 33), (1, 40)], [.slice none 0 0, .int .i64 0], false⟩ := ⟨_, _, _, Tryz.type124, Tryz.underlying124, rfl, rfl, ⟨_, rfl, rfl⟩, rfl, rfl, ⟨rfl, by decide⟩, ⟨(fun fs h p hp => by
    cases h; simp only [List.mem_cons, List.not_mem_nil, or_false] at hp; rcases hp with rfl | rfl
    · exact ⟨_, Tryz.type33⟩
    · exact ⟨_, Tryz.type40⟩), fun h => by cases h⟩⟩
theorem Tryzrow125 : RowOk Tryz.prog 125 ⟨2, 32, .struct [(0, 33), (1, 40)], [.slice none 0 0, .int .i64 0], false⟩ := ⟨_, _, _, Tryz.type125, Tryz.underlying125, rfl, rfl, ⟨_, rfl, rfl⟩, rfl, rfl, ⟨rfl, by decide⟩, ⟨(fun fs h p hp => by
    cases h; simp only [List.mem_cons, List.not_mem_nil, or_false] at hp; rcases hp with rfl | rfl
    · exact ⟨_, Tryz.type33⟩
    · exact ⟨_, Tryz.type40⟩), fun h => by cases h⟩⟩
theorem Tryzrow127 : RowOk Tryz.prog 127 ⟨1, 8, .ptr 129, [.pointer none], false⟩ := ⟨_, _, _, Tryz.type127, Tryz.underlying127, rfl, rfl, rfl, rfl, rfl, ⟨rfl, by decide⟩, ⟨(fun fs h p hp => by cases h), fun h => by cases h⟩⟩
theorem Tryzrow128 : RowOk Tryz.prog 128 ⟨2, 32, .struct [(0, 33), (1, 3)], [.slice none 0 0, .int .i64 0], false⟩ := ⟨_, _, _, Tryz.type128, Tryz.underlying128, rfl, rfl, ⟨_, rfl, rfl⟩, rfl, rfl, ⟨rfl, by decide⟩, ⟨(fun fs h p hp => by
    cases h; simp only [List.mem_cons, List.not_mem_nil, or_false] at hp; rcases hp with rfl | rfl
    · exact ⟨_, Tryz.type33⟩
    · exact ⟨_, Tryz.type3⟩), fun h => by cases h⟩⟩
theorem Tryzrow129 : RowOk Tryz.prog 129 ⟨2, 32, .struct [(0, 33), (1, 3)], [.slice none 0 0, .int .i64 0], false⟩ := ⟨_, _, _, Tryz.type129, Tryz.underlying129, rfl, rfl, ⟨_, rfl, rfl⟩, rfl, rfl, ⟨rfl, by decide⟩, ⟨(fun fs h p hp => by
    cases h; simp only [List.mem_cons, List.not_mem_nil, or_false] at hp; rcases hp with rfl | rfl
    · exact ⟨_, Tryz.type33⟩
    · exact ⟨_, Tryz.type3⟩), fun h => by cases h⟩⟩
theorem Tryzrow137 : RowOk Tryz.prog 137 ⟨2, 16, .struct [(0, 2), (1, 22)], [.int .i64 0, .int .u32 0], false⟩ := ⟨_, _, _, Tryz.type137, Tryz.underlying137, rfl, rfl, ⟨_, rfl, rfl⟩, rfl, rfl, ⟨rfl, by decide⟩, ⟨(fun fs h p hp => by
    cases h; simp only [List.mem_cons, List.not_mem_nil, or_false] at hp; rcases hp with rfl | rfl
    · exact ⟨_, Tryz.type2⟩
    · exact ⟨_, Tryz.type22⟩), fun h => by cases h⟩⟩
theorem Tryzrow138 : RowOk Tryz.prog 138 ⟨2, 16, .struct [(0, 2), (1, 22)], [.int .i64 0, .int .u32 0], true⟩ := ⟨_, _, _, Tryz.type138, Tryz.underlying138, rfl, rfl, ⟨_, rfl, rfl⟩, rfl, rfl, ⟨rfl, by decide⟩, ⟨(fun fs h p hp => by
    cases h; simp only [List.mem_cons, List.not_mem_nil, or_false] at hp; rcases hp with rfl | rfl
    · exact ⟨_, Tryz.type2⟩
    · exact ⟨_, Tryz.type22⟩), fun _ => eqsOk_of (by decide +kernel) Tryz.underlying138 (by decide +kernel)⟩⟩
theorem Tryzrow172 : RowOk Tryz.prog 172 ⟨1, 8, .ptr 118, [.pointer none], false⟩ := ⟨_, _, _, Tryz.type172, Tryz.underlying172, rfl, rfl, rfl, rfl, rfl, ⟨rfl, by decide⟩, ⟨(fun fs h p hp => by cases h), fun h => by cases h⟩⟩
theorem Tryzrow177 : RowOk Tryz.prog 177 ⟨1, 8, .ptr 112, [.pointer none], false⟩ := ⟨_, _, _, Tryz.type177, Tryz.underlying177, rfl, rfl, rfl, rfl, rfl, ⟨rfl, by decide⟩, ⟨(fun fs h p hp => by cases h), fun h => by cases h⟩⟩
theorem Tryzrow179 : RowOk Tryz.prog 179 ⟨1, 8, .ptr 22, [.pointer none], false⟩ := ⟨_, _, _, Tryz.type179, Tryz.underlying179, rfl, rfl, rfl, rfl, rfl, ⟨rfl, by decide⟩, ⟨(fun fs h p hp => by cases h), fun h => by cases h⟩⟩
theorem Tryzrow184 : RowOk Tryz.prog 184 ⟨1, 8, .ptr 116, [.pointer none], false⟩ := ⟨_, _, _, Tryz.type184, Tryz.underlying184, rfl, rfl, rfl, rfl, rfl, ⟨rfl, by decide⟩, ⟨(fun fs h p hp => by cases h), fun h => by cases h⟩⟩
theorem Tryzrow185 : RowOk Tryz.prog 185 ⟨1, 8, .ptr 114, [.pointer none], false⟩ := ⟨_, _, _, Tryz.type185, Tryz.underlying185, rfl, rfl, rfl, rfl, rfl, ⟨rfl, by decide⟩, ⟨(fun fs h p hp => by cases h), fun h => by cases h⟩⟩
theorem Tryzrow187 : RowOk Tryz.prog 187 ⟨1, 8, .ptr 21, [.pointer none], false⟩ := ⟨_, _, _, Tryz.type187, Tryz.underlying187, rfl, rfl, rfl, rfl, rfl, ⟨rfl, by decide⟩, ⟨(fun fs h p hp => by cases h), fun h => by cases h⟩⟩
theorem Tryzrow194 : RowOk Tryz.prog 194 ⟨4, 40, .struct [(0, 17), (1, 17), (2, 17), (3, 9)], [.pointer none, .pointer none, .pointer none, .string {data := #[]}], false⟩ := ⟨_, _, _, Tryz.type194, Tryz.underlying194, rfl, rfl, ⟨_, rfl, rfl⟩, rfl, rfl, ⟨rfl, by decide⟩, ⟨(fun fs h p hp => by
    cases h; simp only [List.mem_cons, List.not_mem_nil, or_false] at hp; rcases hp with rfl | rfl | rfl | rfl
    · exact ⟨_, Tryz.type17⟩
    · exact ⟨_, Tryz.type17⟩
    · exact ⟨_, Tryz.type17⟩
    · exact ⟨_, Tryz.type9⟩), fun h => by cases h⟩⟩
theorem Tryzrow195 : RowOk Tryz.prog 195 ⟨4, 40, .struct [(0, 17), (1, 17), (2, 17), (3, 9)], [.pointer none, .pointer none, .pointer none, .string {data := #[]}], false⟩ := ⟨_, _, _, Tryz.type195, Tryz.underlying195, rfl, rfl, ⟨_, rfl, rfl⟩, rfl, rfl, ⟨rfl, by decide⟩, ⟨(fun fs h p hp => by
    cases h; simp only [List.mem_cons, List.not_mem_nil, or_false] at hp; rcases hp with rfl | rfl | rfl | rfl
    · exact ⟨_, Tryz.type17⟩
    · exact ⟨_, Tryz.type17⟩
    · exact ⟨_, Tryz.type17⟩
    · exact ⟨_, Tryz.type9⟩), fun h => by cases h⟩⟩
theorem Tryzrow196 : RowOk Tryz.prog 196 ⟨0, 0, .arr 0 16, [], false⟩ := ⟨_, _, _, Tryz.type196, Tryz.underlying196, rfl, rfl, rfl, rfl, rfl, ⟨rfl, by decide⟩, ⟨(fun fs h p hp => by cases h), fun h => by cases h⟩⟩
theorem Tryzrow197 : RowOk Tryz.prog 197 ⟨0, 0, .struct [(0, 196)], [], false⟩ := ⟨_, _, _, Tryz.type197, Tryz.underlying197, rfl, rfl, ⟨_, rfl, rfl⟩, rfl, rfl, ⟨rfl, by decide⟩, ⟨(fun fs h p hp => by
    cases h; simp only [List.mem_cons, List.not_mem_nil, or_false] at hp; rcases hp with rfl
    · exact ⟨_, Tryz.type196⟩), fun h => by cases h⟩⟩
theorem Tryzrow198 : RowOk Tryz.prog 198 ⟨0, 0, .struct [(0, 196)], [], false⟩ := ⟨_, _, _, Tryz.type198, Tryz.underlying198, rfl, rfl, ⟨_, rfl, rfl⟩, rfl, rfl, ⟨rfl, by decide⟩, ⟨(fun fs h p hp => by
    cases h; simp only [List.mem_cons, List.not_mem_nil, or_false] at hp; rcases hp with rfl
    · exact ⟨_, Tryz.type196⟩), fun h => by cases h⟩⟩
theorem Tryzrow199 : RowOk Tryz.prog 199 ⟨1, 1, .int .u8, [.int .u8 0], false⟩ := ⟨_, _, _, Tryz.type199, Tryz.underlying199, rfl, rfl, rfl, rfl, rfl, ⟨rfl, by decide⟩, ⟨(fun fs h p hp => by cases h), fun h => by cases h⟩⟩
theorem Tryzrow200 : RowOk Tryz.prog 200 ⟨1, 1, .int .u8, [.int .u8 0], false⟩ := ⟨_, _, _, Tryz.type200, Tryz.underlying200, rfl, rfl, rfl, rfl, rfl, ⟨rfl, by decide⟩, ⟨(fun fs h p hp => by cases h), fun h => by cases h⟩⟩
theorem Tryzrow202 : RowOk Tryz.prog 202 ⟨1, 8, .ptr 5, [.pointer none], false⟩ := ⟨_, _, _, Tryz.type202, Tryz.underlying202, rfl, rfl, rfl, rfl, rfl, ⟨rfl, by decide⟩, ⟨(fun fs h p hp => by cases h), fun h => by cases h⟩⟩
theorem Tryzrow203 : RowOk Tryz.prog 203 ⟨1, 4, .int .i32, [.int .i32 0], false⟩ := ⟨_, _, _, Tryz.type203, Tryz.underlying203, rfl, rfl, rfl, rfl, rfl, ⟨rfl, by decide⟩, ⟨(fun fs h p hp => by cases h), fun h => by cases h⟩⟩
theorem Tryzrow204 : RowOk Tryz.prog 204 ⟨1, 4, .int .i32, [.int .i32 0], false⟩ := ⟨_, _, _, Tryz.type204, Tryz.underlying204, rfl, rfl, rfl, rfl, rfl, ⟨rfl, by decide⟩, ⟨(fun fs h p hp => by cases h), fun h => by cases h⟩⟩
theorem Tryzrow205 : RowOk Tryz.prog 205 ⟨11, 48, .struct [(0, 12), (1, 12), (2, 22), (3, 199), (4, 5), (5, 5), (6, 200), (7, 201), (8, 202), (9, 203), (10, 204)], [.int .u64 0, .int .u64 0, .int .u32 0, .int .u8 0, .int .u8 0, .int .u8 0, .int .u8 0, .nilFunc, .pointer none, .int .i32 0, .int .i32 0], false⟩ := ⟨_, _, _, Tryz.type205, Tryz.underlying205, rfl, rfl, ⟨_, rfl, rfl⟩, rfl, rfl, ⟨rfl, by decide⟩, ⟨(fun fs h p hp => by
    cases h; simp only [List.mem_cons, List.not_mem_nil, or_false] at hp; rcases hp with rfl | rfl | rfl | rfl | rfl | rfl | rfl | rfl | rfl | rfl | rfl
    · exact ⟨_, Tryz.type12⟩
    · exact ⟨_, Tryz.type12⟩
    · exact ⟨_, Tryz.type22⟩
    · exact ⟨_, Tryz.type199⟩
    · exact ⟨_, Tryz.type5⟩
    · exact ⟨_, Tryz.type5⟩
    · exact ⟨_, Tryz.type200⟩
    · exact ⟨_, Tryz.type201⟩
    · exact ⟨_, Tryz.type202⟩
    · exact ⟨_, Tryz.type203⟩
    · exact ⟨_, Tryz.type204⟩), fun h => by cases h⟩⟩
theorem Tryzrow206 : RowOk Tryz.prog 206 ⟨11, 48, .struct [(0, 12), (1, 12), (2, 22), (3, 199), (4, 5), (5, 5), (6, 200), (7, 201), (8, 202), (9, 203), (10, 204)], [.int .u64 0, .int .u64 0, .int .u32 0, .int .u8 0, .int .u8 0, .int .u8 0, .int .u8 0, .nilFunc, .pointer none, .int .i32 0, .int .i32 0], false⟩ := ⟨_, _, _, Tryz.type206, Tryz.underlying206, rfl, rfl, ⟨_, rfl, rfl⟩, rfl, rfl, ⟨rfl, by decide⟩, ⟨(fun fs h p hp => by
    cases h; simp only [List.mem_cons, List.not_mem_nil, or_false] at hp; rcases hp with rfl | rfl | rfl | rfl | rfl | rfl | rfl | rfl | rfl | rfl | rfl
    · exact ⟨_, Tryz.type12⟩
    · exact ⟨_, Tryz.type12⟩
    · exact ⟨_, Tryz.type22⟩
    · exact ⟨_, Tryz.type199⟩
    · exact ⟨_, Tryz.type5⟩
    · exact ⟨_, Tryz.type5⟩
    · exact ⟨_, Tryz.type200⟩
    · exact ⟨_, Tryz.type201⟩
    · exact ⟨_, Tryz.type202⟩
    · exact ⟨_, Tryz.type203⟩
    · exact ⟨_, Tryz.type204⟩), fun h => by cases h⟩⟩
theorem TryztabOk : TabOk Tryz.prog Tryztab := tabOk_tree (
  (Tr.All.mk Tryzrow98 (Tr.All.mk Tryzrow25 (Tr.All.mk Tryzrow13 (Tr.All.mk Tryzrow7 (Tr.All.mk Tryzrow4 (Tr.All.mk Tryzrow3 (Tr.All.mk Tryzrow2 Tr.All.no Tr.All.no) Tr.All.no) (Tr.All.mk Tryzrow6 (Tr.All.mk Tryzrow5 Tr.All.no Tr.All.no) Tr.All.no)) (Tr.All.mk Tryzrow10 (Tr.All.mk Tryzrow9 (Tr.All.mk Tryzrow8 Tr.All.no Tr.All.no) Tr.All.no) (Tr.All.mk Tryzrow12 (Tr.All.mk Tryzrow11 Tr.All.no Tr.All.no) Tr.All.no))) (Tr.All.mk Tryzrow19 (Tr.All.mk Tryzrow16 (Tr.All.mk Tryzrow15 (Tr.All.mk Tryzrow14 Tr.All.no Tr.All.no) Tr.All.no) (Tr.All.mk Tryzrow18 (Tr.All.mk Tryzrow17 Tr.All.no Tr.All.no) Tr.All.no)) (Tr.All.mk Tryzrow22 (Tr.All.mk Tryzrow21 (Tr.All.mk Tryzrow20 Tr.All.no Tr.All.no) Tr.All.no) (Tr.All.mk Tryzrow24 (Tr.All.mk Tryzrow23 Tr.All.no Tr.All.no) Tr.All.no)))) (Tr.All.mk Tryzrow37 (Tr.All.mk Tryzrow31 (Tr.All.mk Tryzrow28 (Tr.All.mk Tryzrow27 (Tr.All.mk Tryzrow26 Tr.All.no Tr.All.no) Tr.All.no) (Tr.All.mk Tryzrow30 (Tr.All.mk Tryzrow29 Tr.All.no Tr.All.no) Tr.All.no)) (Tr.All.mk Tryzrow34 (Tr.All.mk Tryzrow33 (Tr.All.mk Tryzrow32 Tr.All.no Tr.All.no) Tr.All.no) (Tr.All.mk Tryzrow36 (Tr.All.mk Tryzrow35 Tr.All.no Tr.All.no) Tr.All.no))) (Tr.All.mk Tryzrow66 (Tr.All.mk Tryzrow56 (Tr.All.mk Tryzrow45 (Tr.All.mk Tryzrow40 Tr.All.no Tr.All.no) Tr.All.no) (Tr.All.mk Tryzrow64 (Tr.All.mk Tryzrow63 Tr.All.no Tr.All.no) Tr.All.no)) (Tr.All.mk Tryzrow72 (Tr.All.mk Tryzrow71 (Tr.All.mk Tryzrow69 Tr.All.no Tr.All.no) Tr.All.no) (Tr.All.mk Tryzrow73 Tr.All.no Tr.All.no))))) (Tr.All.mk Tryzrow127 (Tr.All.mk Tryzrow114 (Tr.All.mk Tryzrow108 (Tr.All.mk Tryzrow103 (Tr.All.mk Tryzrow102 (Tr.All.mk Tryzrow99 Tr.All.no Tr.All.no) Tr.All.no) (Tr.All.mk Tryzrow106 (Tr.All.mk Tryzrow104 Tr.All.no Tr.All.no) Tr.All.no)) (Tr.All.mk Tryzrow111 (Tr.All.mk Tryzrow110 (Tr.All.mk Tryzrow109 Tr.All.no Tr.All.no) Tr.All.no) (Tr.All.mk Tryzrow113 (Tr.All.mk Tryzrow112 Tr.All.no Tr.All.no) Tr.All.no))) (Tr.All.mk Tryzrow120 (Tr.All.mk Tryzrow117 (Tr.All.mk Tryzrow116 (Tr.All.mk Tryzrow115 Tr.All.no Tr.All.no) Tr.All.no) (Tr.All.mk Tryzrow119 (Tr.All.mk Tryzrow118 Tr.All.no Tr.All.no) Tr.All.no)) (Tr.All.mk Tryzrow124 (Tr.All.mk Tryzrow123 (Tr.All.mk Tryzrow121 Tr.All.no Tr.All.no) Tr.All.no) (Tr.All.mk Tryzrow125 Tr.All.no Tr.All.no)))) (Tr.All.mk Tryzrow195 (Tr.All.mk Tryzrow177 (Tr.All.mk Tryzrow137 (Tr.All.mk Tryzrow129 (Tr.All.mk Tryzrow128 Tr.All.no Tr.All.no) Tr.All.no) (Tr.All.mk Tryzrow172 (Tr.All.mk Tryzrow138 Tr.All.no Tr.All.no) Tr.All.no)) (Tr.All.mk Tryzrow185 (Tr.All.mk Tryzrow184 (Tr.All.mk Tryzrow179 Tr.All.no Tr.All.no) Tr.All.no) (Tr.All.mk Tryzrow194 (Tr.All.mk Tryzrow187 Tr.All.no Tr.All.no) Tr.All.no))) (Tr.All.mk Tryzrow202 (Tr.All.mk Tryzrow198 (Tr.All.mk Tryzrow197 (Tr.All.mk Tryzrow196 Tr.All.no Tr.All.no) Tr.All.no) (Tr.All.mk Tryzrow200 (Tr.All.mk Tryzrow199 Tr.All.no Tr.All.no) Tr.All.no)) (Tr.All.mk Tryzrow205 (Tr.All.mk Tryzrow204 (Tr.All.mk Tryzrow203 Tr.All.no Tr.All.no) Tr.All.no) (Tr.All.mk Tryzrow206 Tr.All.no Tr.All.no)))))) : Tr.All _ Tryztree)
end Go.Sx
end
