/- The types of the program Try, made by gentab.py; no condition. -/
import Derived.Test.YtlbbdkecjpaglaaChecked
import Derived.Eval
import Derived.Test.YtlbbdkecjpaglaaFae

set_option linter.all false

section
open Go.Proofs
namespace Go.Sx
def Trytree : Tr := (.node 64 ⟨1, 8, .int .u64, [.int .u64 0], false⟩ (.node 26 ⟨1, 24, .slice 5, [.slice none 0 0], false⟩ (.node 13 ⟨2, 24, .struct [(0, 9), (1, 12)], [.string {data := #[]}, .int .u64 0], false⟩ (.node 7 ⟨4, 24, .struct [(0, 2), (1, 3), (2, 4), (3, 6)], [.int .i64 0, .int .i64 0, .bool false, .int .u8 0], false⟩ (.node 4 ⟨1, 1, .bool, [.bool false], false⟩ (.node 3 ⟨1, 8, .int .i64, [.int .i64 0], false⟩ (.node 2 ⟨1, 8, .int .i64, [.int .i64 0], false⟩ .leaf .leaf) .leaf) (.node 6 ⟨1, 1, .int .u8, [.int .u8 0], false⟩ (.node 5 ⟨1, 1, .int .u8, [.int .u8 0], false⟩ .leaf .leaf) .leaf)) (.node 10 ⟨1, 16, .str, [.string {data := #[]}], false⟩ (.node 9 ⟨1, 16, .str, [.string {data := #[]}], false⟩ (.node 8 ⟨4, 24, .struct [(0, 2), (1, 3), (2, 4), (3, 6)], [.int .i64 0, .int .i64 0, .bool false, .int .u8 0], false⟩ .leaf .leaf) .leaf) (.node 12 ⟨1, 8, .int .u64, [.int .u64 0], false⟩ (.node 11 ⟨1, 16, .str, [.string {data := #[]}], false⟩ .leaf .leaf) .leaf))) (.node 19 ⟨1, 8, .struct [(0, 17)], [.pointer none], false⟩ (.node 16 ⟨1, 8, .ptr 169, [.pointer none], false⟩ (.node 15 ⟨1, 8, .ptr 166, [.pointer none], false⟩ (.node 14 ⟨2, 24, .struct [(0, 9), (1, 12)], [.string {data := #[]}, .int .u64 0], false⟩ .leaf .leaf) .leaf) (.node 18 ⟨1, 8, .struct [(0, 17)], [.pointer none], false⟩ (.node 17 ⟨1, 8, .ptr 177, [.pointer none], false⟩ .leaf .leaf) .leaf)) (.node 22 ⟨1, 24, .slice 42, [.slice none 0 0], false⟩ (.node 21 ⟨1, 4, .int .i32, [.int .i32 0], false⟩ (.node 20 ⟨1, 16, .iface, [.nilIface], false⟩ .leaf .leaf) .leaf) (.node 24 ⟨1, 8, .ptr 55, [.pointer none], false⟩ .leaf .leaf)))) (.node 38 ⟨3, 72, .struct [(0, 36), (1, 36), (2, 36)], [.slice none 0 0, .slice none 0 0, .slice none 0 0], false⟩ (.node 33 ⟨6, 24, .struct [(0, 9), (1, 5), (2, 30), (3, 4), (4, 5), (5, 31)], [.string {data := #[]}, .int .u8 0, .int .u8 0, .bool false, .int .u8 0, .int .u16 0], true⟩ (.node 30 ⟨1, 1, .int .u8, [.int .u8 0], false⟩ (.node 29 ⟨1, 8, .int .u64, [.int .u64 0], false⟩ (.node 28 ⟨1, 4, .int .u32, [.int .u32 0], false⟩ .leaf .leaf) .leaf) (.node 32 ⟨6, 24, .struct [(0, 9), (1, 5), (2, 30), (3, 4), (4, 5), (5, 31)], [.string {data := #[]}, .int .u8 0, .int .u8 0, .bool false, .int .u8 0, .int .u16 0], false⟩ (.node 31 ⟨1, 2, .int .u16, [.int .u16 0], false⟩ .leaf .leaf) .leaf)) (.node 36 ⟨1, 24, .slice 9, [.slice none 0 0], false⟩ (.node 35 ⟨1, 24, .slice 21, [.slice none 0 0], false⟩ (.node 34 ⟨1, 24, .slice 91, [.slice none 0 0], false⟩ .leaf .leaf) .leaf) (.node 37 ⟨3, 72, .struct [(0, 36), (1, 36), (2, 36)], [.slice none 0 0, .slice none 0 0, .slice none 0 0], false⟩ .leaf .leaf))) (.node 52 ⟨1, 8, .ptr 89, [.pointer none], false⟩ (.node 41 ⟨28, 320, .struct [(0, 5), (1, 28), (2, 28), (3, 29), (4, 5), (5, 28), (6, 9), (7, 33), (13, 34), (14, 28), (15, 35), (16, 31), (17, 31), (18, 38), (21, 28), (22, 28), (23, 26), (24, 29), (25, 36), (26, 39), (27, 40)], [.int .u8 0, .int .u32 0, .int .u32 0, .int .u64 0, .int .u8 0, .int .u32 0, .string {data := #[]}, .string {data := #[]}, .int .u8 0, .int .u8 0, .bool false, .int .u8 0, .int .u16 0, .slice none 0 0, .int .u32 0, .slice none 0 0, .int .u16 0, .int .u16 0, .slice none 0 0, .slice none 0 0, .slice none 0 0, .int .u32 0, .int .u32 0, .slice none 0 0, .int .u64 0, .slice none 0 0, .slice none 0 0, .slice none 0 0], false⟩ (.node 40 ⟨1, 24, .slice 107, [.slice none 0 0], false⟩ (.node 39 ⟨1, 24, .slice 58, [.slice none 0 0], false⟩ .leaf .leaf) .leaf) (.node 43 ⟨1, 8, .int .i64, [.int .i64 0], false⟩ (.node 42 ⟨28, 320, .struct [(0, 5), (1, 28), (2, 28), (3, 29), (4, 5), (5, 28), (6, 9), (7, 33), (13, 34), (14, 28), (15, 35), (16, 31), (17, 31), (18, 38), (21, 28), (22, 28), (23, 26), (24, 29), (25, 36), (26, 39), (27, 40)], [.int .u8 0, .int .u32 0, .int .u32 0, .int .u64 0, .int .u8 0, .int .u32 0, .string {data := #[]}, .string {data := #[]}, .int .u8 0, .int .u8 0, .bool false, .int .u8 0, .int .u16 0, .slice none 0 0, .int .u32 0, .slice none 0 0, .int .u16 0, .int .u16 0, .slice none 0 0, .slice none 0 0, .slice none 0 0, .int .u32 0, .int .u32 0, .slice none 0 0, .int .u64 0, .slice none 0 0, .slice none 0 0, .slice none 0 0], false⟩ .leaf .leaf) .leaf)) (.node 57 ⟨3, 56, .struct [(0, 28), (1, 35), (2, 36)], [.int .u32 0, .slice none 0 0, .slice none 0 0], false⟩ (.node 55 ⟨3, 40, .struct [(0, 26), (1, 43), (2, 52)], [.slice none 0 0, .int .i64 0, .pointer none], false⟩ (.node 54 ⟨3, 40, .struct [(0, 26), (1, 43), (2, 52)], [.slice none 0 0, .int .i64 0, .pointer none], false⟩ .leaf .leaf) .leaf) (.node 58 ⟨3, 56, .struct [(0, 28), (1, 35), (2, 36)], [.int .u32 0, .slice none 0 0, .slice none 0 0], false⟩ .leaf .leaf))))) (.node 102 ⟨2, 32, .struct [(0, 26), (1, 43)], [.slice none 0 0, .int .i64 0], false⟩ (.node 86 ⟨3, 12, .struct [(0, 77), (0, 80), (1, 84)], [.int .u32 0, .int .i32 0, .int .u32 0], false⟩ (.node 80 ⟨1, 4, .struct [(0, 78), (0, 28)], [.int .u32 0], false⟩ (.node 77 ⟨0, 0, .struct [], [], false⟩ (.node 76 ⟨0, 0, .struct [], [], false⟩ (.node 65 ⟨1, 8, .int .i64, [.int .i64 0], false⟩ .leaf .leaf) .leaf) (.node 79 ⟨1, 4, .struct [(0, 78), (0, 28)], [.int .u32 0], false⟩ (.node 78 ⟨0, 0, .struct [], [], false⟩ .leaf .leaf) .leaf)) (.node 83 ⟨2, 8, .struct [(0, 77), (0, 82)], [.int .i32 0, .int .u32 0], false⟩ (.node 82 ⟨2, 8, .struct [(0, 21), (1, 28)], [.int .i32 0, .int .u32 0], false⟩ (.node 81 ⟨2, 8, .struct [(0, 21), (1, 28)], [.int .i32 0, .int .u32 0], false⟩ .leaf .leaf) .leaf) (.node 85 ⟨3, 12, .struct [(0, 77), (0, 80), (1, 84)], [.int .u32 0, .int .i32 0, .int .u32 0], false⟩ (.node 84 ⟨2, 8, .struct [(0, 77), (0, 82)], [.int .i32 0, .int .u32 0], false⟩ .leaf .leaf) .leaf))) (.node 94 ⟨1, 8, .ptr 96, [.pointer none], false⟩ (.node 89 ⟨260, 1040, .struct [(0, 86), (3, 80), (4, 87)], [.int .u32 0, .int .i32 0, .int .u32 0] ++ [.int .u32 0] ++ List.replicate 256 (.int .u32 0), false⟩ (.node 88 ⟨260, 1040, .struct [(0, 86), (3, 80), (4, 87)], [.int .u32 0, .int .i32 0, .int .u32 0] ++ [.int .u32 0] ++ List.replicate 256 (.int .u32 0), false⟩ (.node 87 ⟨256, 1024, .arr 256 28, List.replicate 256 (.int .u32 0), false⟩ .leaf .leaf) .leaf) (.node 91 ⟨4, 64, .struct [(0, 4), (1, 58)], [.bool false, .int .u32 0, .slice none 0 0, .slice none 0 0], false⟩ (.node 90 ⟨4, 64, .struct [(0, 4), (1, 58)], [.bool false, .int .u32 0, .slice none 0 0, .slice none 0 0], false⟩ .leaf .leaf) .leaf)) (.node 98 ⟨1, 8, .ptr 42, [.pointer none], false⟩ (.node 96 ⟨2, 32, .struct [(0, 26), (1, 4)], [.slice none 0 0, .bool false], false⟩ (.node 95 ⟨2, 32, .struct [(0, 26), (1, 4)], [.slice none 0 0, .bool false], false⟩ .leaf .leaf) .leaf) (.node 101 ⟨1, 8, .ptr 103, [.pointer none], false⟩ .leaf .leaf)))) (.node 166 ⟨4, 40, .struct [(0, 17), (1, 17), (2, 17), (3, 9)], [.pointer none, .pointer none, .pointer none, .string {data := #[]}], false⟩ (.node 150 ⟨1, 8, .ptr 28, [.pointer none], false⟩ (.node 107 ⟨2, 16, .struct [(0, 2), (1, 28)], [.int .i64 0, .int .u32 0], true⟩ (.node 106 ⟨2, 16, .struct [(0, 2), (1, 28)], [.int .i64 0, .int .u32 0], false⟩ (.node 103 ⟨2, 32, .struct [(0, 26), (1, 43)], [.slice none 0 0, .int .i64 0], false⟩ .leaf .leaf) .leaf) (.node 148 ⟨1, 8, .ptr 80, [.pointer none], false⟩ (.node 141 ⟨1, 8, .ptr 86, [.pointer none], false⟩ .leaf .leaf) .leaf)) (.node 158 ⟨1, 8, .ptr 21, [.pointer none], false⟩ (.node 156 ⟨1, 8, .ptr 82, [.pointer none], false⟩ (.node 155 ⟨1, 8, .ptr 84, [.pointer none], false⟩ .leaf .leaf) .leaf) (.node 165 ⟨4, 40, .struct [(0, 17), (1, 17), (2, 17), (3, 9)], [.pointer none, .pointer none, .pointer none, .string {data := #[]}], false⟩ .leaf .leaf))) (.node 173 ⟨1, 8, .ptr 5, [.pointer none], false⟩ (.node 169 ⟨0, 0, .struct [(0, 167)], [], false⟩ (.node 168 ⟨0, 0, .struct [(0, 167)], [], false⟩ (.node 167 ⟨0, 0, .arr 0 16, [], false⟩ .leaf .leaf) .leaf) (.node 171 ⟨1, 1, .int .u8, [.int .u8 0], false⟩ (.node 170 ⟨1, 1, .int .u8, [.int .u8 0], false⟩ .leaf .leaf) .leaf)) (.node 176 ⟨11, 48, .struct [(0, 12), (1, 12), (2, 28), (3, 170), (4, 5), (5, 5), (6, 171), (7, 172), (8, 173), (9, 174), (10, 175)], [.int .u64 0, .int .u64 0, .int .u32 0, .int .u8 0, .int .u8 0, .int .u8 0, .int .u8 0, .nilFunc, .pointer none, .int .i32 0, .int .i32 0], false⟩ (.node 175 ⟨1, 4, .int .i32, [.int .i32 0], false⟩ (.node 174 ⟨1, 4, .int .i32, [.int .i32 0], false⟩ .leaf .leaf) .leaf) (.node 177 ⟨11, 48, .struct [(0, 12), (1, 12), (2, 28), (3, 170), (4, 5), (5, 5), (6, 171), (7, 172), (8, 173), (9, 174), (10, 175)], [.int .u64 0, .int .u64 0, .int .u32 0, .int .u8 0, .int .u8 0, .int .u8 0, .int .u8 0, .nilFunc, .pointer none, .int .i32 0, .int .i32 0], false⟩ .leaf .leaf))))))
def Trytab : Tab := fun t => findT t Trytree

theorem Tryrow2 : RowOk Try.prog 2 ⟨1, 8, .int .i64, [.int .i64 0], false⟩ := ⟨_, _, _, Try.type2, Try.underlying2, rfl, rfl, rfl, rfl, rfl, ⟨rfl, by decide⟩, ⟨(fun fs h p hp => by cases h), fun h => by cases h⟩⟩
theorem Tryrow3 : RowOk Try.prog 3 ⟨1, 8, .int .i64, [.int .i64 0], false⟩ := ⟨_, _, _, Try.type3, Try.underlying3, rfl, rfl, rfl, rfl, rfl, ⟨rfl, by decide⟩, ⟨(fun fs h p hp => by cases h), fun h => by cases h⟩⟩
theorem Tryrow4 : RowOk Try.prog 4 ⟨1, 1, .bool, [.bool false], false⟩ := ⟨_, _, _, Try.type4, Try.underlying4, rfl, rfl, rfl, rfl, rfl, ⟨rfl, by decide⟩, ⟨(fun fs h p hp => by cases h), fun h => by cases h⟩⟩
theorem Tryrow5 : RowOk Try.prog 5 ⟨1, 1, .int .u8, [.int .u8 0], false⟩ := ⟨_, _, _, Try.type5, Try.underlying5, rfl, rfl, rfl, rfl, rfl, ⟨rfl, by decide⟩, ⟨(fun fs h p hp => by cases h), fun h => by cases h⟩⟩
theorem Tryrow6 : RowOk Try.prog 6 ⟨1, 1, .int .u8, [.int .u8 0], false⟩ := ⟨_, _, _, Try.type6, Try.underlying6, rfl, rfl, rfl, rfl, rfl, ⟨rfl, by decide⟩, ⟨(fun fs h p hp => by cases h), fun h => by cases h⟩⟩
theorem Tryrow7 : RowOk Try.prog 7 ⟨4, 24, .struct [(0, 2), (1, 3), (2, 4), (3, 6)], [.int .i64 0, .int .i64 0, .bool false, .int .u8 0], false⟩ := ⟨_, _, _, Try.type7, Try.underlying7, rfl, rfl, ⟨_, rfl, rfl⟩, rfl, rfl, ⟨rfl, by decide⟩, ⟨(fun fs h p hp => by
    cases h; simp only [List.mem_cons, List.not_mem_nil, or_false] at hp; rcases hp with rfl | rfl | rfl | rfl
    · exact ⟨_, Try.type2⟩
    · exact ⟨_, Try.type3⟩
    · exact ⟨_, Try.type4⟩
    · exact ⟨_, Try.type6⟩), fun h => by cases h⟩⟩
theorem Tryrow8 : RowOk Try.prog 8 ⟨4, 24, .struct [(0, 2), (1, 3), (2, 4), (3, 6)], [.int .i64 0, .int .i64 0, .bool false, .int .u8 0], false⟩ := ⟨_, _, _, Try.type8, Try.underlying8, rfl, rfl, ⟨_, rfl, rfl⟩, rfl, rfl, ⟨rfl, by decide⟩, ⟨(fun fs h p hp => by
    cases h; simp only [List.mem_cons, List.not_mem_nil, or_false] at hp; rcases hp with rfl | rfl | rfl | rfl
    · exact ⟨_, Try.type2⟩
    · exact ⟨_, Try.type3⟩
    · exact ⟨_, Try.type4⟩
    · exact ⟨_, Try.type6⟩), fun h => by cases h⟩⟩
theorem Tryrow9 : RowOk Try.prog 9 ⟨1, 16, .str, [.string {data := #[]}], false⟩ := ⟨_, _, _, Try.type9, Try.underlying9, rfl, rfl, rfl, rfl, rfl, ⟨rfl, by decide⟩, ⟨(fun fs h p hp => by cases h), fun h => by cases h⟩⟩
theorem Tryrow10 : RowOk Try.prog 10 ⟨1, 16, .str, [.string {data := #[]}], false⟩ := ⟨_, _, _, Try.type10, Try.underlying10, rfl, rfl, rfl, rfl, rfl, ⟨rfl, by decide⟩, ⟨(fun fs h p hp => by cases h), fun h => by cases h⟩⟩
theorem Tryrow11 : RowOk Try.prog 11 ⟨1, 16, .str, [.string {data := #[]}], false⟩ := ⟨_, _, _, Try.type11, Try.underlying11, rfl, rfl, rfl, rfl, rfl, ⟨rfl, by decide⟩, ⟨(fun fs h p hp => by cases h), fun h => by cases h⟩⟩
theorem Tryrow12 : RowOk Try.prog 12 ⟨1, 8, .int .u64, [.int .u64 0], false⟩ := ⟨_, _, _, Try.type12, Try.underlying12, rfl, rfl, rfl, rfl, rfl, ⟨rfl, by decide⟩, ⟨(fun fs h p hp => by cases h), fun h => by cases h⟩⟩
theorem Tryrow13 : RowOk Try.prog 13 ⟨2, 24, .struct [(0, 9), (1, 12)], [.string {data := #[]}, .int .u64 0], false⟩ := ⟨_, _, _, Try.type13, Try.underlying13, rfl, rfl, ⟨_, rfl, rfl⟩, rfl, rfl, ⟨rfl, by decide⟩, ⟨(fun fs h p hp => by
    cases h; simp only [List.mem_cons, List.not_mem_nil, or_false] at hp; rcases hp with rfl | rfl
    · exact ⟨_, Try.type9⟩
    · exact ⟨_, Try.type12⟩), fun h => by cases h⟩⟩
theorem Tryrow14 : RowOk Try.prog 14 ⟨2, 24, .struct [(0, 9), (1, 12)], [.string {data := #[]}, .int .u64 0], false⟩ := ⟨_, _, _, Try.type14, Try.underlying14, rfl, rfl, ⟨_, rfl, rfl⟩, rfl, rfl, ⟨rfl, by decide⟩, ⟨(fun fs h p hp => by
    cases h; simp only [List.mem_cons, List.not_mem_nil, or_false] at hp; rcases hp with rfl | rfl
    · exact ⟨_, Try.type9⟩
    · exact ⟨_, Try.type12⟩), fun h => by cases h⟩⟩
theorem Tryrow15 : RowOk Try.prog 15 ⟨1, 8, .ptr 166, [.pointer none], false⟩ := ⟨_, _, _, Try.type15, Try.underlying15, rfl, rfl, rfl, rfl, rfl, ⟨rfl, by decide⟩, ⟨(fun fs h p hp => by cases h), fun h => by cases h⟩⟩
theorem Tryrow16 : RowOk Try.prog 16 ⟨1, 8, .ptr 169, [.pointer none], false⟩ := ⟨_, _, _, Try.type16, Try.underlying16, rfl, rfl, rfl, rfl, rfl, ⟨rfl, by decide⟩, ⟨(fun fs h p hp => by cases h), fun h => by cases h⟩⟩
theorem Tryrow17 : RowOk Try.prog 17 ⟨1, 8, .ptr 177, [.pointer none], false⟩ := ⟨_, _, _, Try.type17, Try.underlying17, rfl, rfl, rfl, rfl, rfl, ⟨rfl, by decide⟩, ⟨(fun fs h p hp => by cases h), fun h => by cases h⟩⟩
theorem Tryrow18 : RowOk Try.prog 18 ⟨1, 8, .struct [(0, 17)], [.pointer none], false⟩ := ⟨_, _, _, Try.type18, Try.underlying18, rfl, rfl, ⟨_, rfl, rfl⟩, rfl, rfl, ⟨rfl, by decide⟩, ⟨(fun fs h p hp => by
    cases h; simp only [List.mem_cons, List.not_mem_nil, or_false] at hp; rcases hp with rfl
    · exact ⟨_, Try.type17⟩), fun h => by cases h⟩⟩
theorem Tryrow19 : RowOk Try.prog 19 ⟨1, 8, .struct [(0, 17)], [.pointer none], false⟩ := ⟨_, _, _, Try.type19, Try.underlying19, rfl, rfl, ⟨_, rfl, rfl⟩, rfl, rfl, ⟨rfl, by decide⟩, ⟨(fun fs h p hp => by
    cases h; simp only [List.mem_cons, List.not_mem_nil, or_false] at hp; rcases hp with rfl
    · exact ⟨_, Try.type17⟩), fun h => by cases h⟩⟩
theorem Tryrow20 : RowOk Try.prog 20 ⟨1, 16, .iface, [.nilIface], false⟩ := ⟨_, _, _, Try.type20, Try.underlying20, rfl, rfl, ⟨_, rfl⟩, rfl, rfl, ⟨rfl, by decide⟩, ⟨(fun fs h p hp => by cases h), fun h => by cases h⟩⟩
theorem Tryrow21 : RowOk Try.prog 21 ⟨1, 4, .int .i32, [.int .i32 0], false⟩ := ⟨_, _, _, Try.type21, Try.underlying21, rfl, rfl, rfl, rfl, rfl, ⟨rfl, by decide⟩, ⟨(fun fs h p hp => by cases h), fun h => by cases h⟩⟩
theorem Tryrow22 : RowOk Try.prog 22 ⟨1, 24, .slice 42, [.slice none 0 0], false⟩ := ⟨_, _, _, Try.type22, Try.underlying22, rfl, rfl, rfl, rfl, rfl, ⟨rfl, by decide⟩, ⟨(fun fs h p hp => by cases h), fun h => by cases h⟩⟩
theorem Tryrow24 : RowOk Try.prog 24 ⟨1, 8, .ptr 55, [.pointer none], false⟩ := ⟨_, _, _, Try.type24, Try.underlying24, rfl, rfl, rfl, rfl, rfl, ⟨rfl, by decide⟩, ⟨(fun fs h p hp => by cases h), fun h => by cases h⟩⟩
theorem Tryrow26 : RowOk Try.prog 26 ⟨1, 24, .slice 5, [.slice none 0 0], false⟩ := ⟨_, _, _, Try.type26, Try.underlying26, rfl, rfl, rfl, rfl, rfl, ⟨rfl, by decide⟩, ⟨(fun fs h p hp => by cases h), fun h => by cases h⟩⟩
theorem Tryrow28 : RowOk Try.prog 28 ⟨1, 4, .int .u32, [.int .u32 0], false⟩ := ⟨_, _, _, Try.type28, Try.underlying28, rfl, rfl, rfl, rfl, rfl, ⟨rfl, by decide⟩, ⟨(fun fs h p hp => by cases h), fun h => by cases h⟩⟩
theorem Tryrow29 : RowOk Try.prog 29 ⟨1, 8, .int .u64, [.int .u64 0], false⟩ := ⟨_, _, _, Try.type29, Try.underlying29, rfl, rfl, rfl, rfl, rfl, ⟨rfl, by decide⟩, ⟨(fun fs h p hp => by cases h), fun h => by cases h⟩⟩
theorem Tryrow30 : RowOk Try.prog 30 ⟨1, 1, .int .u8, [.int .u8 0], false⟩ := ⟨_, _, _, Try.type30, Try.underlying30, rfl, rfl, rfl, rfl, rfl, ⟨rfl, by decide⟩, ⟨(fun fs h p hp => by cases h), fun h => by cases h⟩⟩
theorem Tryrow31 : RowOk Try.prog 31 ⟨1, 2, .int .u16, [.int .u16 0], false⟩ := ⟨_, _, _, Try.type31, Try.underlying31, rfl, rfl, rfl, rfl, rfl, ⟨rfl, by decide⟩, ⟨(fun fs h p hp => by cases h), fun h => by cases h⟩⟩
theorem Tryrow32 : RowOk Try.prog 32 ⟨6, 24, .struct [(0, 9), (1, 5), (2, 30), (3, 4), (4, 5), (5, 31)], [.string {data := #[]}, .int .u8 0, .int .u8 0, .bool false, .int .u8 0, .int .u16 0], false⟩ := ⟨_, _, _, Try.type32, Try.underlying32, rfl, rfl, ⟨_, rfl, rfl⟩, rfl, rfl, ⟨rfl, by decide⟩, ⟨(fun fs h p hp => by
    cases h; simp only [List.mem_cons, List.not_mem_nil, or_false] at hp; rcases hp with rfl | rfl | rfl | rfl | rfl | rfl
    · exact ⟨_, Try.type9⟩
    · exact ⟨_, Try.type5⟩
    · exact ⟨_, Try.type30⟩
    · exact ⟨_, Try.type4⟩
    · exact ⟨_, Try.type5⟩
    · exact ⟨_, Try.type31⟩), fun h => by cases h⟩⟩
theorem Tryrow33 : RowOk Try.prog 33 ⟨6, 24, .struct [(0, 9), (1, 5), (2, 30), (3, 4), (4, 5), (5, 31)], [.string {data := #[]}, .int .u8 0, .int .u8 0, .bool false, .int .u8 0, .int .u16 0], true⟩ := ⟨_, _, _, Try.type33, Try.underlying33, rfl, rfl, ⟨_, rfl, rfl⟩, rfl, rfl, ⟨rfl, by decide⟩, ⟨(fun fs h p hp => by
    cases h; simp only [List.mem_cons, List.not_mem_nil, or_false] at hp; rcases hp with rfl | rfl | rfl | rfl | rfl | rfl
    · exact ⟨_, Try.type9⟩
    · exact ⟨_, Try.type5⟩
    · exact ⟨_, Try.type30⟩
    · exact ⟨_, Try.type4⟩
    · exact ⟨_, Try.type5⟩
    · exact ⟨_, Try.type31⟩), fun _ => eqsOk_of (by decide +kernel) Try.underlying33 (by decide +kernel)⟩⟩
theorem Tryrow34 : RowOk Try.prog 34 ⟨1, 24, .slice 91, [.slice none 0 0], false⟩ := ⟨_, _, _, Try.type34, Try.underlying34, rfl, rfl, rfl, rfl, rfl, ⟨rfl, by decide⟩, ⟨(fun fs h p hp => by cases h), fun h => by cases h⟩⟩
theorem Tryrow35 : RowOk Try.prog 35 ⟨1, 24, .slice 21, [.slice none 0 0], false⟩ := ⟨_, _, _, Try.type35, Try.underlying35, rfl, rfl, rfl, rfl, rfl, ⟨rfl, by decide⟩, ⟨(fun fs h p hp => by cases h), fun h => by cases h⟩⟩
theorem Tryrow36 : RowOk Try.prog 36 ⟨1, 24, .slice 9, [.slice none 0 0], false⟩ := ⟨_, _, _, Try.type36, Try.underlying36, rfl, rfl, rfl, rfl, rfl, ⟨rfl, by decide⟩, ⟨(fun fs h p hp => by cases h), fun h => by cases h⟩⟩
theorem Tryrow37 : RowOk Try.prog 37 ⟨3, 72, .struct [(0, 36), (1, 36), (2, 36)], [.slice none 0 0, .slice none 0 0, .slice none 0 0], false⟩ := ⟨_, _, _, Try.type37, Try.underlying37, rfl, rfl, ⟨_, rfl, rfl⟩, rfl, rfl, ⟨rfl, by decide⟩, ⟨(fun fs h p hp => by
    cases h; simp only [List.mem_cons, List.not_mem_nil, or_false] at hp; rcases hp with rfl | rfl | rfl
    · exact ⟨_, Try.type36⟩
    · exact ⟨_, Try.type36⟩
    · exact ⟨_, Try.type36⟩), fun h => by cases h⟩⟩
theorem Tryrow38 : RowOk Try.prog 38 ⟨3, 72, .struct [(0, 36), (1, 36), (2, 36)], [.slice none 0 0, .slice none 0 0, .slice none 0 0], false⟩ := ⟨_, _, _, Try.type38, Try.underlying38, rfl, rfl, ⟨_, rfl, rfl⟩, rfl, rfl, ⟨rfl, by decide⟩, ⟨(fun fs h p hp => by
    cases h; simp only [List.mem_cons, List.not_mem_nil, or_false] at hp; rcases hp with rfl | rfl | rfl
    · exact ⟨_, Try.type36⟩
    · exact ⟨_, Try.type36⟩
    · exact ⟨_, Try.type36⟩), fun h => by cases h⟩⟩
theorem Tryrow39 : RowOk Try.prog 39 ⟨1, 24, .slice 58, [.slice none 0 0], false⟩ := ⟨_, _, _, Try.type39, Try.underlying39, rfl, rfl, rfl, rfl, rfl, ⟨rfl, by decide⟩, ⟨(fun fs h p hp => by cases h), fun h => by cases h⟩⟩
theorem Tryrow40 : RowOk Try.prog 40 ⟨1, 24, .slice 107, [.slice none 0 0], false⟩ := ⟨_, _, _, Try.type40, Try.underlying40, rfl, rfl, rfl, rfl, rfl, ⟨rfl, by decide⟩, ⟨(fun fs h p hp => by cases h), fun h => by cases h⟩⟩
theorem Tryrow41 : RowOk Try.prog 41 ⟨28, 320, .struct [(0, 5), (1, 28), (2, 28), (3, 29), (4, 5), (5, 28), (6, 9), (7, 33), (13, 34), (14, 28), (15, 35), (16, 31), (17, 31), (18, 38), (21, 28), (22, 28), (23, 26), (24, 29), (25, 36), (26, 39), (27, 40)], [.int .u8 0, .int .u32 0, .int .u32 0, .int .u64 0, .int .u8 0, .int .u32 0, .string {data := #[]}, .string {data := #[]}, .int .u8 0, .int .u8 0, .bool false, .int .u8 0, .int .u16 0, .slice none 0 0, .int .u32 0, .slice none 0 0, .int .u16 0, .int .u16 0, .slice none 0 0, .slice none 0 0, .slice none 0 0, .int .u32 0, .int .u32 0, .slice none 0 0, .int .u64 0, .slice none 0 0, .slice none 0 0, .slice none 0 0], false⟩ := ⟨_, _, _, Try.type41, Try.underlying41, rfl, rfl, ⟨_, rfl, rfl⟩, rfl, rfl, ⟨rfl, by decide⟩, ⟨(fun fs h p hp => by
    cases h; simp only [List.mem_cons, List.not_mem_nil, or_false] at hp; rcases hp with rfl | rfl | rfl | rfl | rfl | rfl | rfl | rfl | rfl | rfl | rfl | rfl | rfl | rfl | rfl | rfl | rfl | rfl | rfl | rfl | rfl
    · exact ⟨_, Try.type5⟩
    · exact ⟨_, Try.type28⟩
    · exact ⟨_, Try.type28⟩
    · exact ⟨_, Try.type29⟩
    · exact ⟨_, Try.type5⟩
    · exact ⟨_, Try.type28⟩
    · exact ⟨_, Try.type9⟩
    · exact ⟨_, Try.type33⟩
    · exact ⟨_, Try.type34⟩
    · exact ⟨_, Try.type28⟩
    · exact ⟨_, Try.type35⟩
    · exact ⟨_, Try.type31⟩
    · exact ⟨_, Try.type31⟩
    · exact ⟨_, Try.type38⟩
    · exact ⟨_, Try.type28⟩
    · exact ⟨_, Try.type28⟩
    · exact ⟨_, Try.type26⟩
    · exact ⟨_, Try.type29⟩
    · exact ⟨_, Try.type36⟩
    · exact ⟨_, Try.type39⟩
    · exact ⟨_, Try.type40⟩), fun h => by cases h⟩⟩
theorem Tryrow42 : RowOk Try.prog 42 ⟨28, 320, .struct [(0, 5), (1, 28), (2, 28), (3, 29), (4, 5), (5, 28), (6, 9), (7, 33), (13, 34), (14, 28), (15, 35), (16, 31), (17, 31), (18, 38), (21, 28), (22, 28), (23, 26), (24, 29), (25, 36), (26, 39), (27, 40)], [.int .u8 0, .int .u32 0, .int .u32 0, .int .u64 0, .int .u8 0, .int .u32 0, .string {data := #[]}, .string {data := #[]}, .int .u8 0, .int .u8 0, .bool false, .int .u8 0, .int .u16 0, .slice none 0 0, .int .u32 0, .slice none 0 0, .int .u16 0, .int .u16 0, .slice none 0 0, .slice none 0 0, .slice none 0 0, .int .u32 0, .int .u32 0, .slice none 0 0, .int .u64 0, .slice none 0 0, .slice none 0 0, .slice none 0 0], false⟩ := ⟨_, _, _, Try.type42, Try.underlying42, rfl, rfl, ⟨_, rfl, rfl⟩, rfl, rfl, ⟨rfl, by decide⟩, ⟨(fun fs h p hp => by
    cases h; simp only [List.mem_cons, List.not_mem_nil, or_false] at hp; rcases hp with rfl | rfl | rfl | rfl | rfl | rfl | rfl | rfl | rfl | rfl | rfl | rfl | rfl | rfl | rfl | rfl | rfl | rfl | rfl | rfl | rfl
    · exact ⟨_, Try.type5⟩
    · exact ⟨_, Try.type28⟩
    · exact ⟨_, Try.type28⟩
    · exact ⟨_, Try.type29⟩
    · exact ⟨_, Try.type5⟩
    · exact ⟨_, Try.type28⟩
    · exact ⟨_, Try.type9⟩
    · exact ⟨_, Try.type33⟩
    · exact ⟨_, Try.type34⟩
    · exact ⟨_, Try.type28⟩
    · exact ⟨_, Try.type35⟩
    · exact ⟨_, Try.type31⟩
    · exact ⟨_, Try.type31⟩
    · exact ⟨_, Try.type38⟩
    · exact ⟨_, Try.type28⟩
    · exact ⟨_, Try.type28⟩
    · exact ⟨_, Try.type26⟩
    · exact ⟨_, Try.type29⟩
    · exact ⟨_, Try.type36⟩
    · exact ⟨_, Try.type39⟩
    · exact ⟨_, Try.type40⟩), fun h => by cases h⟩⟩
theorem Tryrow43 : RowOk Try.prog 43 ⟨1, 8, .int .i64, [.int .i64 0], false⟩ := ⟨_, _, _, Try.type43, Try.underlying43, rfl, rfl, rfl, rfl, rfl, ⟨rfl, by decide⟩, ⟨(fun fs h p hp => by cases h), fun h => by cases h⟩⟩
theorem Tryrow52 : RowOk Try.prog 52 ⟨1, 8, .ptr 89, [.pointer none], false⟩ := ⟨_, _, _, Try.type52, Try.underlying52, rfl, rfl, rfl, rfl, rfl, ⟨rfl, by decide⟩, ⟨(fun fs h p hp => by cases h), fun h => by cases h⟩⟩
theorem Tryrow54 : RowOk Try.prog 54 ⟨3, 40, .struct [(0, 26), (1, 43), (2, 52)], [.slice none 0 0, .int .i64 0, .pointer none], false⟩ := ⟨_, _, _, Try.type54, Try.underlying54, rfl, rfl, ⟨_, rfl, rfl⟩, rfl, rfl, ⟨rfl, by decide⟩, ⟨(fun fs h p hp => by
    cases h; simp only [List.mem_cons, List.not_mem_nil, or_false] at hp; rcases hp with rfl | rfl | rfl
    · exact ⟨_, Try.type26⟩
    · exact ⟨_, Try.type43⟩
    · exact ⟨_, Try.type52⟩), fun h => by cases h⟩⟩
theorem Tryrow55 : RowOk Try.prog 55 ⟨3, 40, .struct [(0, 26), (1, 43), (2, 52)], [.slice none 0 0, .int .i64 0, .pointer none], false⟩ := ⟨_, _, _, Try.type55, Try.underlying55, rfl, rfl, ⟨_, rfl, rfl⟩, rfl, rfl, ⟨rfl, by decide⟩, ⟨(fun fs h p hp => by
    cases h; simp only [List.mem_cons, List.not_mem_nil, or_false] at hp; rcases hp with rfl | rfl | rfl
    · exact ⟨_, Try.type26⟩
    · exact ⟨_, Try.type43⟩
    · exact ⟨_, Try.type52⟩), fun h => by cases h⟩⟩
theorem Tryrow57 : RowOk Try.prog 57 ⟨3, 56, .struct [(0, 28), (1, 35), (2, 36)], [.int .u32 0, .slice none 0 0, .slice none 0 0], false⟩ := ⟨_, _, _, Try.type57, Try.underlying57, rfl, rfl, ⟨_, rfl, rfl⟩, rfl, rfl, ⟨rfl, by decide⟩, ⟨(fun fs h p hp => by
    cases h; simp only [List.mem_cons, List.not_mem_nil, or_false] at hp; rcases hp with rfl | rfl | rfl
    · exact ⟨_, Try.type28⟩
    · exact ⟨_, Try.type35⟩
    · exact ⟨_, Try.type36⟩), fun h => by cases h⟩⟩
theorem Tryrow58 : RowOk Try.prog 58 ⟨3, 56, .struct [(0, 28), (1, 35), (2, 36)], [.int .u32 0, .slice none 0 0, .slice none 0 0], false⟩ := ⟨_, _, _, Try.type58, Try.underlying58, rfl, rfl, ⟨_, rfl, rfl⟩, rfl, rfl, ⟨rfl, by decide⟩, ⟨(fun fs h p hp => by
    cases h; simp only [List.mem_cons, List.not_mem_nil, or_false] at hp; rcases hp with rfl | rfl | rfl
    · exact ⟨_, Try.type28⟩
    · exact ⟨_, Try.type35⟩
    · exact ⟨_, Try.type36⟩), fun h => by cases h⟩⟩
theorem Tryrow64 : RowOk Try.prog 64 ⟨1, 8, .int .u64, [.int .u64 0], false⟩ := ⟨_, _, _, Try.type64, Try.underlying64, rfl, rfl, rfl, rfl, rfl, ⟨rfl, by decide⟩, ⟨(fun fs h p hp => by cases h), fun h => by cases h⟩⟩
theorem Tryrow65 : RowOk Try.prog 65 ⟨1, 8, .int .i64, [.int .i64 0], false⟩ := ⟨_, _, _, Try.type65, Try.underlying65, rfl, rfl, rfl, rfl, rfl, ⟨rfl, by decide⟩, ⟨(fun fs h p hp => by cases h), fun h => by cases h⟩⟩
theorem Tryrow76 : RowOk Try.prog 76 ⟨0, 0, .struct [], [], false⟩ := ⟨_, _, _, Try.type76, Try.underlying76, rfl, rfl, ⟨_, rfl, rfl⟩, rfl, rfl, ⟨rfl, by decide⟩, ⟨(fun fs h p hp => by cases h <;> cases hp), fun h => by cases h⟩⟩
theorem Tryrow77 : RowOk Try.prog 77 ⟨0, 0, .struct [], [], false⟩ := ⟨_, _, _, Try.type77, Try.underlying77, rfl, rfl, ⟨_, rfl, rfl⟩, rfl, rfl, ⟨rfl, by decide⟩, ⟨(fun fs h p hp => by cases h <;> cases hp), fun h => by cases h⟩⟩
theorem Tryrow78 : RowOk Try.prog 78 ⟨0, 0, .struct [], [], false⟩ := ⟨_, _, _, Try.type78, Try.underlying78, rfl, rfl, ⟨_, rfl, rfl⟩, rfl, rfl, ⟨rfl, by decide⟩, ⟨(fun fs h p hp => by cases h <;> cases hp), fun h => by cases h⟩⟩
theorem Tryrow79 : RowOk Try.prog 79 ⟨1, 4, .struct [(0, 78), (0, 28)], [.int .u32 0], false⟩ := ⟨_, _, _, Try.type79, Try.underlying79, rfl, rfl, ⟨_, rfl, rfl⟩, rfl, rfl, ⟨rfl, by decide⟩, ⟨(fun fs h p hp => by
    cases h; simp only [List.mem_cons, List.not_mem_nil, or_false] at hp; rcases hp with rfl | rfl
    · exact ⟨_, Try.type78⟩
    · exact ⟨_, Try.type28⟩), fun h => by cases h⟩⟩
theorem Tryrow80 : RowOk Try.prog 80 ⟨1, 4, .struct [(0, 78), (0, 28)], [.int .u32 0], false⟩ := ⟨_, _, _, Try.type80, Try.underlying80, rfl, rfl, ⟨_, rfl, rfl⟩, rfl, rfl, ⟨rfl, by decide⟩, ⟨(fun fs h p hp => by
    cases h; simp only [List.mem_cons, List.not_mem_nil, or_false] at hp; rcases hp with rfl | rfl
    · exact ⟨_, Try.type78⟩
    · exact ⟨_, Try.type28⟩), fun h => by cases h⟩⟩
theorem Tryrow81 : RowOk Try.prog 81 ⟨2, 8, .struct [(0, 21), (1, 28)], [.int .i32 0, .int .u32 0], false⟩ := ⟨_, _, _, Try.type81, Try.underlying81, rfl, rfl, ⟨_, rfl, rfl⟩, rfl, rfl, ⟨rfl, by decide⟩, ⟨(fun fs h p hp => by
    cases h; simp only [List.mem_cons, List.not_mem_nil, or_false] at hp; rcases hp with rfl | rfl
    · exact ⟨_, Try.type21⟩
    · exact ⟨_, Try.type28⟩), fun h => by cases h⟩⟩
theorem Tryrow82 : RowOk Try.prog 82 ⟨2, 8, .struct [(0, 21), (1, 28)], [.int .i32 0, .int .u32 0], false⟩ := ⟨_, _, _, Try.type82, Try.underlying82, rfl, rfl, ⟨_, rfl, rfl⟩, rfl, rfl, ⟨rfl, by decide⟩, ⟨(fun fs h p hp => by
    cases h; simp only [List.mem_cons, List.not_mem_nil, or_false] at hp; rcases hp with rfl | rfl
    · exact ⟨_, Try.type21⟩
    · exact ⟨_, Try.type28⟩), fun h => by cases h⟩⟩
theorem Tryrow83 : RowOk Try.prog 83 ⟨2, 8, .struct [(0, 77), (0, 82)], [.int .i32 0, .int .u32 0], false⟩ := ⟨_, _, _, Try.type83, Try.underlying83, rfl, rfl, ⟨_, rfl, rfl⟩, rfl, rfl, ⟨rfl, by decide⟩, ⟨(fun fs h p hp => by
    cases h; simp only [List.mem_cons, List.not_mem_nil, or_false] at hp; rcases hp with rfl | rfl
    · exact ⟨_, Try.type77⟩
    · exact ⟨_, Try.type82⟩), fun h => by cases h⟩⟩
theorem Tryrow84 : RowOk Try.prog 84 ⟨2, 8, .struct [(0, 77), (0, 82)], [.int .i32 0, .int .u32 0], false⟩ := ⟨_, _, _, Try.type84, Try.underlying84, rfl, rfl, ⟨_, rfl, rfl⟩, rfl, rfl, ⟨rfl, by decide⟩, ⟨(fun fs h p hp => by
    cases h; simp only [List.mem_cons, List.not_mem_nil, or_false] at hp; rcases hp with rfl | rfl
    · exact ⟨_, Try.type77⟩
    · exact ⟨_, Try.type82⟩), fun h => by cases h⟩⟩
theorem Tryrow85 : RowOk Try.prog 85 ⟨3, 12, .struct [(0, 77), (0, 80), (1, 84)], [.int .u32 0, .int .i32 0, .int .u32 0], false⟩ := ⟨_, _, _, Try.type85, Try.underlying85, rfl, rfl, ⟨_, rfl, rfl⟩, rfl, rfl, ⟨rfl, by decide⟩, ⟨(fun fs h p hp => by
    cases h; simp only [List.mem_cons, List.not_mem_nil, or_false] at hp; rcases hp with rfl | rfl | rfl
    · exact ⟨_, Try.type77⟩
    · exact ⟨_, Try.type80⟩
    · exact ⟨_, Try.type84⟩), fun h => by cases h⟩⟩
theorem Tryrow86 : RowOk Try.prog 86 ⟨3, 12, .struct [(0, 77), (0, 80), (1, 84)], [.int .u32 0, .int .i32 0, .int .u32 0], false⟩ := ⟨_, _, _, Try.type86, Try.underlying86, rfl, rfl, ⟨_, rfl, rfl⟩, rfl, rfl, ⟨rfl, by decide⟩, ⟨(fun fs h p hp => by
    cases h; simp only [List.mem_cons, List.not_mem_nil, or_false] at hp; rcases hp with rfl | rfl | rfl
    · exact ⟨_, Try.type77⟩
    · exact ⟨_, Try.type80⟩
    · exact ⟨_, Try.type84⟩), fun h => by cases h⟩⟩
theorem Tryrow87 : RowOk Try.prog 87 ⟨256, 1024, .arr 256 28, List.replicate 256 (.int .u32 0), false⟩ := ⟨_, _, _, Try.type87, Try.underlying87, rfl, rfl, rfl, rfl, by kernel_rfl, ⟨by decide +kernel, by decide +kernel⟩, ⟨(fun fs h p hp => by cases h), fun h => by cases h⟩⟩
theorem Tryrow88 : RowOk Try.prog 88 ⟨260, 1040, .struct [(0, 86), (3, 80), (4, 87)], [.int .u32 0, .int .i32 0, .int .u32 0] ++ [.int .u32 0] ++ List.replicate 256 (.int .u32 0), false⟩ := ⟨_, _, _, Try.type88, Try.underlying88, rfl, rfl, ⟨_, rfl, rfl⟩, rfl, by kernel_rfl, ⟨by decide +kernel, by decide +kernel⟩, ⟨(fun fs h p hp => by
    cases h; simp only [List.mem_cons, List.not_mem_nil, or_false] at hp; rcases hp with rfl | rfl | rfl
    · exact ⟨_, Try.type86⟩
    · exact ⟨_, Try.type80⟩
    · exact ⟨_, Try.type87⟩), fun h => by cases h⟩⟩
theorem Tryrow89 : RowOk Try.prog 89 ⟨260, 1040, .struct [(0, 86), (3, 80), (4, 87)], [.int .u32 0, .int .i32 0, .int .u32 0] ++ [.int .u32 0] ++ List.replicate 256 (.int .u32 0), false⟩ := ⟨_, _, _, Try.type89, Try.underlying89, rfl, rfl, ⟨_, rfl, rfl⟩, rfl, by kernel_rfl, ⟨by decide +kernel, by decide +kernel⟩, ⟨(fun fs h p hp => by
    cases h; simp only [List.mem_cons, List.not_mem_nil, or_false] at hp; rcases hp with rfl | rfl | rfl
    · exact ⟨_, Try.type86⟩
    · exact ⟨_, Try.type80⟩
    · exact ⟨_, Try.type87⟩), fun h => by cases h⟩⟩
theorem Tryrow90 : RowOk Try.prog 90 ⟨4, 64, .struct [(0, 4), (1, 58)], [.bool false, .int .u32 0, .slice none 0 0, .slice none 0 0], false⟩ := ⟨_, _, _, Try.type90, Try.underlying90, rfl, rfl, ⟨_, rfl, rfl⟩, rfl, rfl, ⟨rfl, by decide⟩, ⟨(fun fs h p hp => by
    cases h; simp only [List.mem_cons, List.not_mem_nil, or_false] at hp; rcases hp with rfl | rfl
    · exact ⟨_, Try.type4⟩
    · exact ⟨_, Try.type58⟩), fun h => by cases h⟩⟩
theorem Tryrow91 : RowOk Try.prog 91 ⟨4, 64, .struct [(0, 4), (1, 58)], [.bool false, .int .u32 0, .slice none 0 0, .slice none 0 0], false⟩ := ⟨_, _, _, Try.type91, Try.underlying91, rfl, rfl, ⟨_, rfl, rfl⟩, rfl, rfl, ⟨rfl, by decide⟩, ⟨(fun fs h p hp => by
    cases h; simp only [List.mem_cons, List.not_mem_nil, or_false] at hp; rcases hp with rfl | rfl
    · exact ⟨_, Try.type4⟩
    · exact ⟨_, Try.type58⟩), fun h => by cases h⟩⟩
theorem Tryrow94 : RowOk Try.prog 94 ⟨1, 8, .ptr 96, [.pointer none], false⟩ := ⟨_, _, _, Try.type94, Try.underlying94, rfl, rfl, rfl, rfl, rfl, ⟨rfl, by decide⟩, ⟨(fun fs h p hp => by cases h), fun h => by cases h⟩⟩
theorem Tryrow95 : RowOk Try.prog 95 ⟨2, 32, .struct [(0, 26), (1, 4)], [.slice none 0 0, .bool false], false⟩ := ⟨_, _, _, Try.type95, Try.underlying95, rfl, rfl, ⟨_, rfl, rfl⟩, rfl, rfl, ⟨rfl, by decide⟩, ⟨(fun fs h p hp => by
    cases h; simp only [List.mem_cons, List.not_mem_nil, or_false] at hp; rcases hp with rfl | rfl
    · exact ⟨_, Try.type26⟩
    · exact ⟨_, Try.type4⟩), fun h => by cases h⟩⟩
theorem Tryrow96 : RowOk Try.prog 96 ⟨2, 32, .struct [(0, 26), (1, 4)], [.slice none 0 0, .bool false], false⟩ := ⟨_, _, _, Try.type96, Try.underlying96, rfl, rfl, ⟨_, rfl, rfl⟩, rfl, rfl, ⟨rfl, by decide⟩, ⟨(fun fs h p hp => by
    cases h; simp only [List.mem_cons, List.not_mem_nil, or_false] at hp; rcases hp with rfl | rfl
    · exact ⟨_, Try.type26⟩
    · exact ⟨_, Try.type4⟩), fun h => by cases h⟩⟩
theorem Tryrow98 : RowOk Try.prog 98 ⟨1, 8, .ptr 42, [.pointer none], false⟩ := ⟨_, _, _, Try.type98, Try.underlying98, rfl, rfl, rfl, rfl, rfl, ⟨rfl, by decide⟩, ⟨(fun fs h p hp => by cases h), fun h => by cases h⟩⟩
theorem Tryrow101 : RowOk Try.prog 101 ⟨1, 8, .ptr 103, [.pointer none], false⟩ := ⟨_, _, _, Try.type101, Try.underlying101, rfl, rfl, rfl, rfl, rfl, ⟨rfl, by decide⟩, ⟨(fun fs h p hp => by cases h), fun h => by cases h⟩⟩
theorem Tryrow102 : RowOk Try.prog 102 ⟨2, 32, .struct [(0, 26), (1, 43)], [.slice none 0 0, .int .i64 0], false⟩ := ⟨_, _, _, Try.type102, Try.underlying102, rfl, rfl, ⟨_, rfl, rfl⟩, rfl, rfl, ⟨rfl, by decide⟩, ⟨(fun fs h p hp => by
    cases h; simp only [List.mem_cons, List.not_mem_nil, or_false] at hp; rcases hp with rfl | rfl
    · exact ⟨_, Try.type26⟩
    · exact ⟨_, Try.type43⟩), fun h => by cases h⟩⟩
theorem Tryrow103 : RowOk Try.prog 103 ⟨2, 32, .struct [(0, 26), (1, 43)], [.slice none 0 0, .int .i64 0], false⟩ := ⟨_, _, _, Try.type103, Try.underlying103, rfl, rfl, ⟨_, rfl, rfl⟩, rfl, rfl, ⟨rfl, by decide⟩, ⟨(fun fs h p hp => by
    cases h; simp only [List.mem_cons, List.not_mem_nil, or_false] at hp; rcases hp with rfl | rfl
    · exact ⟨_, Try.type26⟩
    · exact ⟨_, Try.type43⟩), fun h => by cases h⟩⟩
theorem Tryrow106 : RowOk Try.prog 106 ⟨2, 16, .struct [(0, 2), (1, 28)], [.int .i64 0, .int .u32 0], false⟩ := ⟨_, _, _, Try.type106, Try.underlying106, rfl, rfl, ⟨_, rfl, rfl⟩, rfl, rfl, ⟨rfl, by decide⟩, ⟨(fun fs h p hp => by
    cases h; simp only [List.mem_cons, List.not_mem_nil, or_false] at hp; rcases hp with rfl | rfl
    · exact ⟨_, Try.type2⟩
    · exact ⟨_, Try.type28⟩), fun h => by cases h⟩⟩
theorem Tryrow107 : RowOk Try.prog 107 ⟨2, 16, .struct [(0, 2), (1, 28)], [.int .i64 0, .int .u32 0], true⟩ := ⟨_, _, _, Try.type107, Try.underlying107, rfl, rfl, ⟨_, rfl, rfl⟩, rfl, rfl, ⟨rfl, by decide⟩, ⟨(fun fs h p hp => by
    cases h; simp only [List.mem_cons, List.not_mem_nil, or_false] at hp; rcases hp with rfl | rfl
    · exact ⟨_, Try.type2⟩
    · exact ⟨_, Try.type28⟩), fun _ => eqsOk_of (by decide +kernel) Try.underlying107 (by decide +kernel)⟩⟩
theorem Tryrow141 : RowOk Try.prog 141 ⟨1, 8, .ptr 86, [.pointer none], false⟩ := ⟨_, _, _, Try.type141, Try.underlying141, rfl, rfl, rfl, rfl, rfl, ⟨rfl, by decide⟩, ⟨(fun fs h p hp => by cases h), fun h => by cases h⟩⟩
theorem Tryrow148 : RowOk Try.prog 148 ⟨1, 8, .ptr 80, [.pointer none], false⟩ := ⟨_, _, _, Try.type148, Try.underlying148, rfl, rfl, rfl, rfl, rfl, ⟨rfl, by decide⟩, ⟨(fun fs h p hp => by cases h), fun h => by cases h⟩⟩
theorem Tryrow150 : RowOk Try.prog 150 ⟨1, 8, .ptr 28, [.pointer none], false⟩ := ⟨_, _, _, Try.type150, Try.underlying150, rfl, rfl, rfl, rfl, rfl, ⟨rfl, by decide⟩, ⟨(fun fs h p hp => by cases h), fun h => by cases h⟩⟩
theorem Tryrow155 : RowOk Try.prog 155 ⟨1, 8, .ptr 84, [.pointer none], false⟩ := ⟨_, _, _, Try.type155, Try.underlying155, rfl, rfl, rfl, rfl, rfl, ⟨rfl, by decide⟩, ⟨(fun fs h p hp => by cases h), fun h => by cases h⟩⟩
theorem Tryrow156 : RowOk Try.prog 156 ⟨1, 8, .ptr 82, [.pointer none], false⟩ := ⟨_, _, _, Try.type156, Try.underlying156, rfl, rfl, rfl, rfl, rfl, ⟨rfl, by decide⟩, ⟨(fun fs h p hp => by cases h), fun h => by cases h⟩⟩
theorem Tryrow158 : RowOk Try.prog 158 ⟨1, 8, .ptr 21, [.pointer none], false⟩ := ⟨_, _, _, Try.type158, Try.underlying158, rfl, rfl, rfl, rfl, rfl, ⟨rfl, by decide⟩, ⟨(fun fs h p hp => by cases h), fun h => by cases h⟩⟩
theorem Tryrow165 : RowOk Try.prog 165 ⟨4, 40, .struct [(0, 17), (1, 17), (2, 17), (3, 9)], [.pointer none, .pointer none, .pointer none, .string {data := #[]}], false⟩ := ⟨_, _, _, Try.type165, Try.underlying165, rfl, rfl, ⟨_, rfl, rfl⟩, rfl, rfl, ⟨rfl, by decide⟩, ⟨(fun fs h p hp => by
    cases h; simp only [List.mem_cons, List.not_mem_nil, or_false] at hp; rcases hp with rfl | rfl | rfl | rfl
    · exact ⟨_, Try.type17⟩
    · exact ⟨_, Try.type17⟩
    · exact ⟨_, Try.type17⟩
    · exact ⟨_, Try.type9⟩), fun h => by cases h⟩⟩
theorem Tryrow166 : RowOk Try.prog 166 ⟨4, 40, .struct [(0, 17), (1, 17), (2, 17), (3, 9)], [.pointer none, .pointer none, .pointer none, .string {data := #[]}], false⟩ := ⟨_, _, _, Try.type166, Try.underlying166, rfl, rfl, ⟨_, rfl, rfl⟩, rfl, rfl, ⟨rfl, by decide⟩, ⟨(fun fs h p hp => by
    cases h; simp only [List.mem_cons, List.not_mem_nil, or_false] at hp; rcases hp with rfl | rfl | rfl | rfl
    · exact ⟨_, Try.type17⟩
    · exact ⟨_, Try.type17⟩
    · exact ⟨_, Try.type17⟩
    · exact ⟨_, Try.type9⟩), fun h => by cases h⟩⟩
theorem Tryrow167 : RowOk Try.prog 167 ⟨0, 0, .arr 0 16, [], false⟩ := ⟨_, _, _, Try.type167, Try.underlying167, rfl, rfl, rfl, rfl, rfl, ⟨rfl, by decide⟩, ⟨(fun fs h p hp => by cases h), fun h => by cases h⟩⟩
theorem Tryrow168 : RowOk Try.prog 168 ⟨0, 0, .struct [(0, 167)], [], false⟩ := ⟨_, _, _, Try.type168, Try.underlying168, rfl, rfl, ⟨_, rfl, rfl⟩, rfl, rfl, ⟨rfl, by decide⟩, ⟨(fun fs h p hp => by
    cases h; simp only [List.mem_cons, List.not_mem_nil, or_false] at hp; rcases hp with rfl
    · exact ⟨_, Try.type167⟩), fun h => by cases h⟩⟩
theorem Tryrow169 : RowOk Try.prog 169 ⟨0, 0, .struct [(0, 167)], [], false⟩ := ⟨_, _, _, Try.type169, Try.underlying169, rfl, rfl, ⟨_, rfl, rfl⟩, rfl, rfl, ⟨rfl, by decide⟩, ⟨(fun fs h p hp => by
    cases h; simp only [List.mem_cons, List.not_mem_nil, or_false] at hp; rcases hp with rfl
    · exact ⟨_, Try.type167⟩), fun h => by cases h⟩⟩
theorem Tryrow170 : RowOk Try.prog 170 ⟨1, 1, .int .u8, [.int .u8 0], false⟩ := ⟨_, _, _, Try.type170, Try.underlying170, rfl, rfl, rfl, rfl, rfl, ⟨rfl, by decide⟩, ⟨(fun fs h p hp => by cases h), fun h => by cases h⟩⟩
theorem Tryrow171 : RowOk Try.prog 171 ⟨1, 1, .int .u8, [.int .u8 0], false⟩ := ⟨_, _, _, Try.type171, Try.underlying171, rfl, rfl, rfl, rfl, rfl, ⟨rfl, by decide⟩, ⟨(fun fs h p hp => by cases h), fun h => by cases h⟩⟩
theorem Tryrow173 : RowOk Try.prog 173 ⟨1, 8, .ptr 5, [.pointer none], false⟩ := ⟨_, _, _, Try.type173, Try.underlying173, rfl, rfl, rfl, rfl, rfl, ⟨rfl, by decide⟩, ⟨(fun fs h p hp => by cases h), fun h => by cases h⟩⟩
theorem Tryrow174 : RowOk Try.prog 174 ⟨1, 4, .int .i32, [.int .i32 0], false⟩ := ⟨_, _, _, Try.type174, Try.underlying174, rfl, rfl, rfl, rfl, rfl, ⟨rfl, by decide⟩, ⟨(fun fs h p hp => by cases h), fun h => by cases h⟩⟩
theorem Tryrow175 : RowOk Try.prog 175 ⟨1, 4, .int .i32, [.int .i32 0], false⟩ := ⟨_, _, _, Try.type175, Try.underlying175, rfl, rfl, rfl, rfl, rfl, ⟨rfl, by decide⟩, ⟨(fun fs h p hp => by cases h), fun h => by cases h⟩⟩
theorem Tryrow176 : RowOk Try.prog 176 ⟨11, 48, .struct [(0, 12), (1, 12), (2, 28), (3, 170), (4, 5), (5, 5), (6, 171), (7, 172), (8, 173), (9, 174), (10, 175)], [.int .u64 0, .int .u64 0, .int .u32 0, .int .u8 0, .int .u8 0, .int .u8 0, .int .u8 0, .nilFunc, .pointer none, .int .i32 0, .int .i32 0], false⟩ := ⟨_, _, _, Try.type176, Try.underlying176, rfl, rfl, ⟨_, rfl, rfl⟩, rfl, rfl, ⟨rfl, by decide⟩, ⟨(fun fs h p hp => by
    cases h; simp only [List.mem_cons, List.not_mem_nil, or_false] at hp; rcases hp with rfl | rfl | rfl | rfl | rfl | rfl | rfl | rfl | rfl | rfl | rfl
    · exact ⟨_, Try.type12⟩
    · exact ⟨_, Try.type12⟩
    · exact ⟨_, Try.type28⟩
    · exact ⟨_, Try.type170⟩
    · exact ⟨_, Try.type5⟩
    · exact ⟨_, Try.type5⟩
    · exact ⟨_, Try.type171⟩
    · exact ⟨_, Try.type172⟩
    · exact ⟨_, Try.type173⟩
    · exact ⟨_, Try.type174⟩
    · exact ⟨_, Try.type175⟩), fun h => by cases h⟩⟩
theorem Tryrow177 : RowOk Try.prog 177 ⟨11, 48, .struct [(0, 12), (1, 12), (2, 28), (3, 170), (4, 5), (5, 5), (6, 171), (7, 172), (8, 173), (9, 174), (10, 175)], [.int .u64 0, .int .u64 0, .int .u32 0, .int .u8 0, .int .u8 0, .int .u8 0, .int .u8 0, .nilFunc, .pointer none, .int .i32 0, .int .i32 0], false⟩ := ⟨_, _, _, Try.type177, Try.underlying177, rfl, rfl, ⟨_, rfl, rfl⟩, rfl, rfl, ⟨rfl, by decide⟩, ⟨(fun fs h p hp => by
    cases h; simp only [List.mem_cons, List.not_mem_nil, or_false] at hp; rcases hp with rfl | rfl | rfl | rfl | rfl | rfl | rfl | rfl | rfl | rfl | rfl
    · exact ⟨_, Try.type12⟩
    · exact ⟨_, Try.type12⟩
    · exact ⟨_, Try.type28⟩
    · exact ⟨_, Try.type170⟩
    · exact ⟨_, Try.type5⟩
    · exact ⟨_, Try.type5⟩
    · exact ⟨_, Try.type171⟩
    · exact ⟨_, Try.type172⟩
    · exact ⟨_, Try.type173⟩
    · exact ⟨_, Try.type174⟩
    · exact ⟨_, Try.type175⟩), fun h => by cases h⟩⟩
theorem TrytabOk : TabOk Try.prog Trytab := tabOk_tree (
  (Tr.All.mk Tryrow64 (Tr.All.mk Tryrow26 (Tr.All.mk Tryrow13 (Tr.All.mk Tryrow7 (Tr.All.mk Tryrow4 (Tr.All.mk Tryrow3 (Tr.All.mk Tryrow2 Tr.All.no Tr.All.no) Tr.All.no) (Tr.All.mk Tryrow6 (Tr.All.mk Tryrow5 Tr.All.no Tr.All.no) Tr.All.no)) (Tr.All.mk Tryrow10 (Tr.All.mk Tryrow9 (Tr.All.mk Tryrow8 Tr.All.no Tr.All.no) Tr.All.no) (Tr.All.mk Tryrow12 (Tr.All.mk Tryrow11 Tr.All.no Tr.All.no) Tr.All.no))) (Tr.All.mk Tryrow19 (Tr.All.mk Tryrow16 (Tr.All.mk Tryrow15 (Tr.All.mk Tryrow14 Tr.All.no Tr.All.no) Tr.All.no) (Tr.All.mk Tryrow18 (Tr.All.mk Tryrow17 Tr.All.no Tr.All.no) Tr.All.no)) (Tr.All.mk Tryrow22 (Tr.All.mk Tryrow21 (Tr.All.mk Tryrow20 Tr.All.no Tr.All.no) Tr.All.no) (Tr.All.mk Tryrow24 Tr.All.no Tr.All.no)))) (Tr.All.mk Tryrow38 (Tr.All.mk Tryrow33 (Tr.All.mk Tryrow30 (Tr.All.mk Tryrow29 (Tr.All.mk Tryrow28 Tr.All.no Tr.All.no) Tr.All.no) (Tr.All.mk Tryrow32 (Tr.All.mk Tryrow31 Tr.All.no Tr.All.no) Tr.All.no)) (Tr.All.mk Tryrow36 (Tr.All.mk Tryrow35 (Tr.All.mk Tryrow34 Tr.All.no Tr.All.no) Tr.All.no) (Tr.All.mk Tryrow37 Tr.All.no Tr.All.no))) (Tr.All.mk Tryrow52 (Tr.All.mk Tryrow41 (Tr.All.mk Tryrow40 (Tr.All.mk Tryrow39 Tr.All.no Tr.All.no) Tr.All.no) (Tr.All.mk Tryrow43 (Tr.All.mk Tryrow42 Tr.All.no Tr.All.no) Tr.All.no)) (Tr.All.mk Tryrow57 (Tr.All.mk Tryrow55 (Tr.All.mk Tryrow54 Tr.All.no Tr.All.no) Tr.All.no) (Tr.All.mk Tryrow58 Tr.All.no Tr.All.no))))) (Tr.All.mk Tryrow102 (Tr.All.mk Tryrow86 (Tr.All.mk Tryrow80 (Tr.All.mk Tryrow77 (Tr.All.mk Tryrow76 (Tr.All.mk Tryrow65 Tr.All.no Tr.All.no) Tr.All.no) (Tr.All.mk Tryrow79 (Tr.All.mk Tryrow78 Tr.All.no Tr.All.no) Tr.All.no)) (Tr.All.mk Tryrow83 (Tr.All.mk Tryrow82 (Tr.All.mk Tryrow81 Tr.All.no Tr.All.no) Tr.All.no) (Tr.All.mk Tryrow85 (Tr.All.mk Tryrow84 Tr.All.no Tr.All.no) Tr.All.no))) (Tr.All.mk Tryrow94 (Tr.All.mk Tryrow89 (Tr.All.mk Tryrow88 (Tr.All.mk Tryrow87 Tr.All.no Tr.All.no) Tr.All.no) (Tr.All.mk Tryrow91 (Tr.All.mk Tryrow90 Tr.All.no Tr.All.no) Tr.All.no)) (Tr.All.mk Tryrow98 (Tr.All.mk Tryrow96 (Tr.All.mk Tryrow95 Tr.All.no Tr.All.no) Tr.All.no) (Tr.All.mk Tryrow101 Tr.All.no Tr.All.no)))) (Tr.All.mk Tryrow166 (Tr.All.mk Tryrow150 (Tr.All.mk Tryrow107 (Tr.All.mk Tryrow106 (Tr.All.mk Tryrow103 Tr.All.no Tr.All.no) Tr.All.no) (Tr.All.mk Tryrow148 (Tr.All.mk Tryrow141 Tr.All.no Tr.All.no) Tr.All.no)) (Tr.All.mk Tryrow158 (Tr.All.mk Tryrow156 (Tr.All.mk Tryrow155 Tr.All.no Tr.All.no) Tr.All.no) (Tr.All.mk Tryrow165 Tr.All.no Tr.All.no))) (Tr.All.mk Tryrow173 (Tr.All.mk Tryrow169 (Tr.All.mk Tryrow168 (Tr.All.mk Tryrow167 Tr.All.no Tr.All.no) Tr.All.no) (Tr.All.mk Tryrow171 (Tr.All.mk Tryrow170 Tr.All.no Tr.All.no) Tr.All.no)) (Tr.All.mk Tryrow176 (Tr.All.mk Tryrow175 (Tr.All.mk Tryrow174 Tr.All.no Tr.All.no) Tr.All.no) (Tr.All.mk Tryrow177 Tr.All.no Tr.All.no)))))) : Tr.All _ Trytree)
end Go.Sx
end
