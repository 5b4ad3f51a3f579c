import Derived.Test.YtiofekhdicfmoaaGreatDoorProg
import Derived.Test.YtiofekhdicfmoaaGreatDoorMA
set_option linter.all false
/- What is known of the program's types. -/
namespace Go.Proofs.YtiofekhdicfmoaaGreatDoor
open Go Go.Hr
instance : Mixed Tryz.prog := ⟨by kernel_rfl⟩
instance : In Tryz.prog 1 .nilFunc 1 8 := ⟨by show (_ : Option _) = _; kernel_rfl⟩
instance : Fl Tryz.prog 1 := ⟨_, Tryz.underlying1, rfl⟩
instance : In Tryz.prog 2 (.int .i64 0) 1 8 := ⟨by show (_ : Option _) = _; kernel_rfl⟩
instance : Fl Tryz.prog 2 := ⟨_, Tryz.underlying2, rfl⟩
instance : Itg Tryz.prog 2 .i64 := ⟨Tryz.underlying2⟩
instance : Con Tryz.prog 2 := ⟨_, Tryz.underlying2, fun _ => nofun⟩
instance : In Tryz.prog 3 (.int .i64 0) 1 8 := ⟨by show (_ : Option _) = _; kernel_rfl⟩
instance : Fl Tryz.prog 3 := ⟨_, Tryz.underlying3, rfl⟩
instance : Itg Tryz.prog 3 .i64 := ⟨Tryz.underlying3⟩
instance : Con Tryz.prog 3 := ⟨_, Tryz.underlying3, fun _ => nofun⟩
instance : In Tryz.prog 4 (.bool false) 1 1 := ⟨by show (_ : Option _) = _; kernel_rfl⟩
instance : Fl Tryz.prog 4 := ⟨_, Tryz.underlying4, rfl⟩
instance : Boo Tryz.prog 4 := ⟨Tryz.underlying4⟩
instance : In Tryz.prog 5 (.int .u8 0) 1 1 := ⟨by show (_ : Option _) = _; kernel_rfl⟩
instance : Fl Tryz.prog 5 := ⟨_, Tryz.underlying5, rfl⟩
instance : Itg Tryz.prog 5 .u8 := ⟨Tryz.underlying5⟩
instance : Con Tryz.prog 5 := ⟨_, Tryz.underlying5, fun _ => nofun⟩
instance : In Tryz.prog 6 (.int .u8 0) 1 1 := ⟨by show (_ : Option _) = _; kernel_rfl⟩
instance : Fl Tryz.prog 6 := ⟨_, Tryz.underlying6, rfl⟩
instance : Itg Tryz.prog 6 .u8 := ⟨Tryz.underlying6⟩
instance : Con Tryz.prog 6 := ⟨_, Tryz.underlying6, fun _ => nofun⟩
instance : In Tryz.prog 7 (.agg (List.toArray [(.int .i64 0), (.int .i64 0), (.bool false), (.int .u8 0)])) 4 24 := ⟨by show (_ : Option _) = _; kernel_rfl⟩
instance : Ag Tryz.prog 7 := ⟨_, Tryz.underlying7, rfl⟩
instance : Fo Tryz.prog 7 0 0 := ⟨by kernel_rfl⟩
instance : Fdv Tryz.prog 7 0 0 := ⟨_, _, _, Tryz.underlying7, rfl, Tryz.underlying2, rfl, rfl⟩
instance : Fo Tryz.prog 7 1 1 := ⟨by kernel_rfl⟩
instance : Fdv Tryz.prog 7 1 1 := ⟨_, _, _, Tryz.underlying7, rfl, Tryz.underlying3, rfl, rfl⟩
instance : Fo Tryz.prog 7 2 2 := ⟨by kernel_rfl⟩
instance : Fdv Tryz.prog 7 2 2 := ⟨_, _, _, Tryz.underlying7, rfl, Tryz.underlying4, rfl, rfl⟩
instance : Fo Tryz.prog 7 3 3 := ⟨by kernel_rfl⟩
instance : Fdv Tryz.prog 7 3 3 := ⟨_, _, _, Tryz.underlying7, rfl, Tryz.underlying6, rfl, rfl⟩
instance : Plc Tryz.prog 7 (List.toArray [(0, 1), (1, 1), (2, 1), (3, 1)]) := ⟨_, Tryz.underlying7, fun w => by kernel_rfl⟩
instance : Con Tryz.prog 7 := ⟨_, Tryz.underlying7, fun _ => nofun⟩
instance : In Tryz.prog 8 (.agg (List.toArray [(.int .i64 0), (.int .i64 0), (.bool false), (.int .u8 0)])) 4 24 := ⟨by show (_ : Option _) = _; kernel_rfl⟩
instance : Ag Tryz.prog 8 := ⟨_, Tryz.underlying8, rfl⟩
instance : Fo Tryz.prog 8 0 0 := ⟨by kernel_rfl⟩
instance : Fdv Tryz.prog 8 0 0 := ⟨_, _, _, Tryz.underlying8, rfl, Tryz.underlying2, rfl, rfl⟩
instance : Fo Tryz.prog 8 1 1 := ⟨by kernel_rfl⟩
instance : Fdv Tryz.prog 8 1 1 := ⟨_, _, _, Tryz.underlying8, rfl, Tryz.underlying3, rfl, rfl⟩
instance : Fo Tryz.prog 8 2 2 := ⟨by kernel_rfl⟩
instance : Fdv Tryz.prog 8 2 2 := ⟨_, _, _, Tryz.underlying8, rfl, Tryz.underlying4, rfl, rfl⟩
instance : Fo Tryz.prog 8 3 3 := ⟨by kernel_rfl⟩
instance : Fdv Tryz.prog 8 3 3 := ⟨_, _, _, Tryz.underlying8, rfl, Tryz.underlying6, rfl, rfl⟩
instance : Plc Tryz.prog 8 (List.toArray [(0, 1), (1, 1), (2, 1), (3, 1)]) := ⟨_, Tryz.underlying8, fun w => by kernel_rfl⟩
instance : Con Tryz.prog 8 := ⟨_, Tryz.underlying8, fun _ => nofun⟩
instance : In Tryz.prog 9 (.string ⟨([] : List UInt8).toArray⟩) 1 16 := ⟨by show (_ : Option _) = _; kernel_rfl⟩
instance : Fl Tryz.prog 9 := ⟨_, Tryz.underlying9, rfl⟩
instance : Str Tryz.prog 9 := ⟨Tryz.underlying9⟩
instance : In Tryz.prog 10 (.string ⟨([] : List UInt8).toArray⟩) 1 16 := ⟨by show (_ : Option _) = _; kernel_rfl⟩
instance : Fl Tryz.prog 10 := ⟨_, Tryz.underlying10, rfl⟩
instance : Str Tryz.prog 10 := ⟨Tryz.underlying10⟩
instance : In Tryz.prog 11 (.string ⟨([] : List UInt8).toArray⟩) 1 16 := ⟨by show (_ : Option _) = _; kernel_rfl⟩
instance : Fl Tryz.prog 11 := ⟨_, Tryz.underlying11, rfl⟩
instance : Str Tryz.prog 11 := ⟨Tryz.underlying11⟩
instance : In Tryz.prog 12 (.int .u64 0) 1 8 := ⟨by show (_ : Option _) = _; kernel_rfl⟩
instance : Fl Tryz.prog 12 := ⟨_, Tryz.underlying12, rfl⟩
instance : Itg Tryz.prog 12 .u64 := ⟨Tryz.underlying12⟩
instance : Con Tryz.prog 12 := ⟨_, Tryz.underlying12, fun _ => nofun⟩
instance : In Tryz.prog 13 (.agg (List.toArray [(.string ⟨([] : List UInt8).toArray⟩), (.int .u64 0)])) 2 24 := ⟨by show (_ : Option _) = _; kernel_rfl⟩
instance : Ag Tryz.prog 13 := ⟨_, Tryz.underlying13, rfl⟩
instance : Fo Tryz.prog 13 0 0 := ⟨by kernel_rfl⟩
instance : Fdv Tryz.prog 13 0 0 := ⟨_, _, _, Tryz.underlying13, rfl, Tryz.underlying9, rfl, rfl⟩
instance : Fo Tryz.prog 13 1 1 := ⟨by kernel_rfl⟩
instance : Fdv Tryz.prog 13 1 1 := ⟨_, _, _, Tryz.underlying13, rfl, Tryz.underlying12, rfl, rfl⟩
instance : Plc Tryz.prog 13 (List.toArray [(0, 1), (1, 1)]) := ⟨_, Tryz.underlying13, fun w => by kernel_rfl⟩
instance : Con Tryz.prog 13 := ⟨_, Tryz.underlying13, fun _ => nofun⟩
instance : In Tryz.prog 14 (.agg (List.toArray [(.string ⟨([] : List UInt8).toArray⟩), (.int .u64 0)])) 2 24 := ⟨by show (_ : Option _) = _; kernel_rfl⟩
instance : Ag Tryz.prog 14 := ⟨_, Tryz.underlying14, rfl⟩
instance : Fo Tryz.prog 14 0 0 := ⟨by kernel_rfl⟩
instance : Fdv Tryz.prog 14 0 0 := ⟨_, _, _, Tryz.underlying14, rfl, Tryz.underlying9, rfl, rfl⟩
instance : Fo Tryz.prog 14 1 1 := ⟨by kernel_rfl⟩
instance : Fdv Tryz.prog 14 1 1 := ⟨_, _, _, Tryz.underlying14, rfl, Tryz.underlying12, rfl, rfl⟩
instance : Plc Tryz.prog 14 (List.toArray [(0, 1), (1, 1)]) := ⟨_, Tryz.underlying14, fun w => by kernel_rfl⟩
instance : Con Tryz.prog 14 := ⟨_, Tryz.underlying14, fun _ => nofun⟩
instance : In Tryz.prog 15 (.pointer none) 1 8 := ⟨by show (_ : Option _) = _; kernel_rfl⟩
instance : Fl Tryz.prog 15 := ⟨_, Tryz.underlying15, rfl⟩
instance : Ptr Tryz.prog 15 := ⟨by kernel_rfl⟩
instance : Con Tryz.prog 15 := ⟨_, Tryz.underlying15, fun _ => nofun⟩
instance : In Tryz.prog 16 (.pointer none) 1 8 := ⟨by show (_ : Option _) = _; kernel_rfl⟩
instance : Fl Tryz.prog 16 := ⟨_, Tryz.underlying16, rfl⟩
instance : Ptr Tryz.prog 16 := ⟨by kernel_rfl⟩
instance : Con Tryz.prog 16 := ⟨_, Tryz.underlying16, fun _ => nofun⟩
instance : In Tryz.prog 17 (.pointer none) 1 8 := ⟨by show (_ : Option _) = _; kernel_rfl⟩
instance : Fl Tryz.prog 17 := ⟨_, Tryz.underlying17, rfl⟩
instance : Ptr Tryz.prog 17 := ⟨by kernel_rfl⟩
instance : Con Tryz.prog 17 := ⟨_, Tryz.underlying17, fun _ => nofun⟩
instance : In Tryz.prog 18 (.agg (List.toArray [(.pointer none)])) 1 8 := ⟨by show (_ : Option _) = _; kernel_rfl⟩
instance : Ag Tryz.prog 18 := ⟨_, Tryz.underlying18, rfl⟩
instance : Fo Tryz.prog 18 0 0 := ⟨by kernel_rfl⟩
instance : Fdv Tryz.prog 18 0 0 := ⟨_, _, _, Tryz.underlying18, rfl, Tryz.underlying17, rfl, rfl⟩
instance : Plc Tryz.prog 18 (List.toArray [(0, 1)]) := ⟨_, Tryz.underlying18, fun w => by kernel_rfl⟩
instance : Con Tryz.prog 18 := ⟨_, Tryz.underlying18, fun _ => nofun⟩
instance : In Tryz.prog 19 (.agg (List.toArray [(.pointer none)])) 1 8 := ⟨by show (_ : Option _) = _; kernel_rfl⟩
instance : Ag Tryz.prog 19 := ⟨_, Tryz.underlying19, rfl⟩
instance : Fo Tryz.prog 19 0 0 := ⟨by kernel_rfl⟩
instance : Fdv Tryz.prog 19 0 0 := ⟨_, _, _, Tryz.underlying19, rfl, Tryz.underlying17, rfl, rfl⟩
instance : Plc Tryz.prog 19 (List.toArray [(0, 1)]) := ⟨_, Tryz.underlying19, fun w => by kernel_rfl⟩
instance : Con Tryz.prog 19 := ⟨_, Tryz.underlying19, fun _ => nofun⟩
instance : In Tryz.prog 20 .nilIface 1 16 := ⟨by show (_ : Option _) = _; kernel_rfl⟩
instance : Fl Tryz.prog 20 := ⟨_, Tryz.underlying20, rfl⟩
instance : Ifc Tryz.prog 20 := ⟨by kernel_rfl⟩
instance : In Tryz.prog 21 (.int .i32 0) 1 4 := ⟨by show (_ : Option _) = _; kernel_rfl⟩
instance : Fl Tryz.prog 21 := ⟨_, Tryz.underlying21, rfl⟩
instance : Itg Tryz.prog 21 .i32 := ⟨Tryz.underlying21⟩
instance : Con Tryz.prog 21 := ⟨_, Tryz.underlying21, fun _ => nofun⟩
instance : In Tryz.prog 22 (.slice none 0 0) 1 24 := ⟨by show (_ : Option _) = _; kernel_rfl⟩
instance : Fl Tryz.prog 22 := ⟨_, Tryz.underlying22, rfl⟩
instance : Sli Tryz.prog 22 37 := ⟨Tryz.underlying22⟩
instance : In Tryz.prog 23 (.agg (List.toArray [(.bool false), (.string ⟨([] : List UInt8).toArray⟩), (.string ⟨([] : List UInt8).toArray⟩), (.int .i64 0), (.int .i64 0), (.string ⟨([] : List UInt8).toArray⟩), (.slice none 0 0)])) 7 96 := ⟨by show (_ : Option _) = _; kernel_rfl⟩
instance : Ag Tryz.prog 23 := ⟨_, Tryz.underlying23, rfl⟩
instance : Fo Tryz.prog 23 0 0 := ⟨by kernel_rfl⟩
instance : Fdv Tryz.prog 23 0 0 := ⟨_, _, _, Tryz.underlying23, rfl, Tryz.underlying4, rfl, rfl⟩
instance : Fo Tryz.prog 23 1 1 := ⟨by kernel_rfl⟩
instance : Fdv Tryz.prog 23 1 1 := ⟨_, _, _, Tryz.underlying23, rfl, Tryz.underlying9, rfl, rfl⟩
instance : Fo Tryz.prog 23 2 2 := ⟨by kernel_rfl⟩
instance : Fdv Tryz.prog 23 2 2 := ⟨_, _, _, Tryz.underlying23, rfl, Tryz.underlying9, rfl, rfl⟩
instance : Fo Tryz.prog 23 3 3 := ⟨by kernel_rfl⟩
instance : Fdv Tryz.prog 23 3 3 := ⟨_, _, _, Tryz.underlying23, rfl, Tryz.underlying3, rfl, rfl⟩
instance : Fo Tryz.prog 23 4 4 := ⟨by kernel_rfl⟩
instance : Fdv Tryz.prog 23 4 4 := ⟨_, _, _, Tryz.underlying23, rfl, Tryz.underlying3, rfl, rfl⟩
instance : Fo Tryz.prog 23 5 5 := ⟨by kernel_rfl⟩
instance : Fdv Tryz.prog 23 5 5 := ⟨_, _, _, Tryz.underlying23, rfl, Tryz.underlying9, rfl, rfl⟩
instance : Fo Tryz.prog 23 6 6 := ⟨by kernel_rfl⟩
instance : Fdv Tryz.prog 23 6 6 := ⟨_, _, _, Tryz.underlying23, rfl, Tryz.underlying22, rfl, rfl⟩
instance : Plc Tryz.prog 23 (List.toArray [(0, 1), (1, 1), (2, 1), (3, 1), (4, 1), (5, 1), (6, 1)]) := ⟨_, Tryz.underlying23, fun w => by kernel_rfl⟩
instance : Con Tryz.prog 23 := ⟨_, Tryz.underlying23, fun _ => nofun⟩
instance : In Tryz.prog 24 (.agg (List.toArray [(.bool false), (.string ⟨([] : List UInt8).toArray⟩), (.string ⟨([] : List UInt8).toArray⟩), (.int .i64 0), (.int .i64 0), (.string ⟨([] : List UInt8).toArray⟩), (.slice none 0 0)])) 7 96 := ⟨by show (_ : Option _) = _; kernel_rfl⟩
instance : Ag Tryz.prog 24 := ⟨_, Tryz.underlying24, rfl⟩
instance : Fo Tryz.prog 24 0 0 := ⟨by kernel_rfl⟩
instance : Fdv Tryz.prog 24 0 0 := ⟨_, _, _, Tryz.underlying24, rfl, Tryz.underlying4, rfl, rfl⟩
instance : Fo Tryz.prog 24 1 1 := ⟨by kernel_rfl⟩
instance : Fdv Tryz.prog 24 1 1 := ⟨_, _, _, Tryz.underlying24, rfl, Tryz.underlying9, rfl, rfl⟩
instance : Fo Tryz.prog 24 2 2 := ⟨by kernel_rfl⟩
instance : Fdv Tryz.prog 24 2 2 := ⟨_, _, _, Tryz.underlying24, rfl, Tryz.underlying9, rfl, rfl⟩
instance : Fo Tryz.prog 24 3 3 := ⟨by kernel_rfl⟩
instance : Fdv Tryz.prog 24 3 3 := ⟨_, _, _, Tryz.underlying24, rfl, Tryz.underlying3, rfl, rfl⟩
instance : Fo Tryz.prog 24 4 4 := ⟨by kernel_rfl⟩
instance : Fdv Tryz.prog 24 4 4 := ⟨_, _, _, Tryz.underlying24, rfl, Tryz.underlying3, rfl, rfl⟩
instance : Fo Tryz.prog 24 5 5 := ⟨by kernel_rfl⟩
instance : Fdv Tryz.prog 24 5 5 := ⟨_, _, _, Tryz.underlying24, rfl, Tryz.underlying9, rfl, rfl⟩
instance : Fo Tryz.prog 24 6 6 := ⟨by kernel_rfl⟩
instance : Fdv Tryz.prog 24 6 6 := ⟨_, _, _, Tryz.underlying24, rfl, Tryz.underlying22, rfl, rfl⟩
instance : Plc Tryz.prog 24 (List.toArray [(0, 1), (1, 1), (2, 1), (3, 1), (4, 1), (5, 1), (6, 1)]) := ⟨_, Tryz.underlying24, fun w => by kernel_rfl⟩
instance : Con Tryz.prog 24 := ⟨_, Tryz.underlying24, fun _ => nofun⟩
instance : In Tryz.prog 25 (.int .i64 0) 1 8 := ⟨by show (_ : Option _) = _; kernel_rfl⟩
instance : Fl Tryz.prog 25 := ⟨_, Tryz.underlying25, rfl⟩
instance : Itg Tryz.prog 25 .i64 := ⟨Tryz.underlying25⟩
instance : Con Tryz.prog 25 := ⟨_, Tryz.underlying25, fun _ => nofun⟩
instance : In Tryz.prog 27 .nilFunc 1 8 := ⟨by show (_ : Option _) = _; kernel_rfl⟩
instance : Fl Tryz.prog 27 := ⟨_, Tryz.underlying27, rfl⟩
instance : In Tryz.prog 29 .nilFunc 1 8 := ⟨by show (_ : Option _) = _; kernel_rfl⟩
instance : Fl Tryz.prog 29 := ⟨_, Tryz.underlying29, rfl⟩
instance : In Tryz.prog 30 .nilFunc 1 8 := ⟨by show (_ : Option _) = _; kernel_rfl⟩
instance : Fl Tryz.prog 30 := ⟨_, Tryz.underlying30, rfl⟩
instance : In Tryz.prog 32 .nilFunc 1 8 := ⟨by show (_ : Option _) = _; kernel_rfl⟩
instance : Fl Tryz.prog 32 := ⟨_, Tryz.underlying32, rfl⟩
instance : In Tryz.prog 33 (.slice none 0 0) 1 24 := ⟨by show (_ : Option _) = _; kernel_rfl⟩
instance : Fl Tryz.prog 33 := ⟨_, Tryz.underlying33, rfl⟩
instance : Sli Tryz.prog 33 5 := ⟨Tryz.underlying33⟩
instance : In Tryz.prog 34 .nilFunc 1 8 := ⟨by show (_ : Option _) = _; kernel_rfl⟩
instance : Fl Tryz.prog 34 := ⟨_, Tryz.underlying34, rfl⟩
instance : In Tryz.prog 35 .nilFunc 1 8 := ⟨by show (_ : Option _) = _; kernel_rfl⟩
instance : Fl Tryz.prog 35 := ⟨_, Tryz.underlying35, rfl⟩
instance : In Tryz.prog 36 (.agg (List.toArray [(.string ⟨([] : List UInt8).toArray⟩), (.string ⟨([] : List UInt8).toArray⟩)])) 2 32 := ⟨by show (_ : Option _) = _; kernel_rfl⟩
instance : Ag Tryz.prog 36 := ⟨_, Tryz.underlying36, rfl⟩
instance : Fo Tryz.prog 36 0 0 := ⟨by kernel_rfl⟩
instance : Fdv Tryz.prog 36 0 0 := ⟨_, _, _, Tryz.underlying36, rfl, Tryz.underlying9, rfl, rfl⟩
instance : Fo Tryz.prog 36 1 1 := ⟨by kernel_rfl⟩
instance : Fdv Tryz.prog 36 1 1 := ⟨_, _, _, Tryz.underlying36, rfl, Tryz.underlying9, rfl, rfl⟩
instance : Plc Tryz.prog 36 (List.toArray [(0, 1), (1, 1)]) := ⟨_, Tryz.underlying36, fun w => by kernel_rfl⟩
instance : Con Tryz.prog 36 := ⟨_, Tryz.underlying36, fun _ => nofun⟩
instance : In Tryz.prog 37 (.agg (List.toArray [(.string ⟨([] : List UInt8).toArray⟩), (.string ⟨([] : List UInt8).toArray⟩)])) 2 32 := ⟨by show (_ : Option _) = _; kernel_rfl⟩
instance : Ag Tryz.prog 37 := ⟨_, Tryz.underlying37, rfl⟩
instance : Fo Tryz.prog 37 0 0 := ⟨by kernel_rfl⟩
instance : Fdv Tryz.prog 37 0 0 := ⟨_, _, _, Tryz.underlying37, rfl, Tryz.underlying9, rfl, rfl⟩
instance : Fo Tryz.prog 37 1 1 := ⟨by kernel_rfl⟩
instance : Fdv Tryz.prog 37 1 1 := ⟨_, _, _, Tryz.underlying37, rfl, Tryz.underlying9, rfl, rfl⟩
instance : Plc Tryz.prog 37 (List.toArray [(0, 1), (1, 1)]) := ⟨_, Tryz.underlying37, fun w => by kernel_rfl⟩
instance : Con Tryz.prog 37 := ⟨_, Tryz.underlying37, fun _ => nofun⟩
instance : In Tryz.prog 38 .nilFunc 1 8 := ⟨by show (_ : Option _) = _; kernel_rfl⟩
instance : Fl Tryz.prog 38 := ⟨_, Tryz.underlying38, rfl⟩
instance : In Tryz.prog 39 (.pointer none) 1 8 := ⟨by show (_ : Option _) = _; kernel_rfl⟩
instance : Fl Tryz.prog 39 := ⟨_, Tryz.underlying39, rfl⟩
instance : Ptr Tryz.prog 39 := ⟨by kernel_rfl⟩
instance : Con Tryz.prog 39 := ⟨_, Tryz.underlying39, fun _ => nofun⟩
instance : In Tryz.prog 41 .nilFunc 1 8 := ⟨by show (_ : Option _) = _; kernel_rfl⟩
instance : Fl Tryz.prog 41 := ⟨_, Tryz.underlying41, rfl⟩
instance : In Tryz.prog 42 .nilFunc 1 8 := ⟨by show (_ : Option _) = _; kernel_rfl⟩
instance : Fl Tryz.prog 42 := ⟨_, Tryz.underlying42, rfl⟩
instance : In Tryz.prog 43 .nilFunc 1 8 := ⟨by show (_ : Option _) = _; kernel_rfl⟩
instance : Fl Tryz.prog 43 := ⟨_, Tryz.underlying43, rfl⟩
instance : In Tryz.prog 44 (.agg (List.toArray [(.slice none 0 0), (.int .i64 0), (.slice none 0 0)])) 3 56 := ⟨by show (_ : Option _) = _; kernel_rfl⟩
instance : Ag Tryz.prog 44 := ⟨_, Tryz.underlying44, rfl⟩
instance : Fo Tryz.prog 44 0 0 := ⟨by kernel_rfl⟩
instance : Fdv Tryz.prog 44 0 0 := ⟨_, _, _, Tryz.underlying44, rfl, Tryz.underlying33, rfl, rfl⟩
instance : Fo Tryz.prog 44 1 1 := ⟨by kernel_rfl⟩
instance : Fdv Tryz.prog 44 1 1 := ⟨_, _, _, Tryz.underlying44, rfl, Tryz.underlying3, rfl, rfl⟩
instance : Fo Tryz.prog 44 2 2 := ⟨by kernel_rfl⟩
instance : Fdv Tryz.prog 44 2 2 := ⟨_, _, _, Tryz.underlying44, rfl, Tryz.underlying33, rfl, rfl⟩
instance : Plc Tryz.prog 44 (List.toArray [(0, 1), (1, 1), (2, 1)]) := ⟨_, Tryz.underlying44, fun w => by kernel_rfl⟩
instance : Con Tryz.prog 44 := ⟨_, Tryz.underlying44, fun _ => nofun⟩
instance : In Tryz.prog 45 (.agg (List.toArray [(.slice none 0 0), (.int .i64 0), (.slice none 0 0)])) 3 56 := ⟨by show (_ : Option _) = _; kernel_rfl⟩
instance : Ag Tryz.prog 45 := ⟨_, Tryz.underlying45, rfl⟩
instance : Fo Tryz.prog 45 0 0 := ⟨by kernel_rfl⟩
instance : Fdv Tryz.prog 45 0 0 := ⟨_, _, _, Tryz.underlying45, rfl, Tryz.underlying33, rfl, rfl⟩
instance : Fo Tryz.prog 45 1 1 := ⟨by kernel_rfl⟩
instance : Fdv Tryz.prog 45 1 1 := ⟨_, _, _, Tryz.underlying45, rfl, Tryz.underlying3, rfl, rfl⟩
instance : Fo Tryz.prog 45 2 2 := ⟨by kernel_rfl⟩
instance : Fdv Tryz.prog 45 2 2 := ⟨_, _, _, Tryz.underlying45, rfl, Tryz.underlying33, rfl, rfl⟩
instance : Plc Tryz.prog 45 (List.toArray [(0, 1), (1, 1), (2, 1)]) := ⟨_, Tryz.underlying45, fun w => by kernel_rfl⟩
instance : Con Tryz.prog 45 := ⟨_, Tryz.underlying45, fun _ => nofun⟩
instance : In Tryz.prog 46 .nilFunc 1 8 := ⟨by show (_ : Option _) = _; kernel_rfl⟩
instance : Fl Tryz.prog 46 := ⟨_, Tryz.underlying46, rfl⟩
instance : In Tryz.prog 47 (.agg (List.toArray [(.string ⟨([] : List UInt8).toArray⟩), (.int .i64 0)])) 2 24 := ⟨by show (_ : Option _) = _; kernel_rfl⟩
instance : Ag Tryz.prog 47 := ⟨_, Tryz.underlying47, rfl⟩
instance : Fo Tryz.prog 47 0 0 := ⟨by kernel_rfl⟩
instance : Fdv Tryz.prog 47 0 0 := ⟨_, _, _, Tryz.underlying47, rfl, Tryz.underlying9, rfl, rfl⟩
instance : Fo Tryz.prog 47 1 1 := ⟨by kernel_rfl⟩
instance : Fdv Tryz.prog 47 1 1 := ⟨_, _, _, Tryz.underlying47, rfl, Tryz.underlying3, rfl, rfl⟩
instance : Plc Tryz.prog 47 (List.toArray [(0, 1), (1, 1)]) := ⟨_, Tryz.underlying47, fun w => by kernel_rfl⟩
instance : Con Tryz.prog 47 := ⟨_, Tryz.underlying47, fun _ => nofun⟩
instance : In Tryz.prog 48 (.agg (List.toArray [(.string ⟨([] : List UInt8).toArray⟩), (.int .i64 0)])) 2 24 := ⟨by show (_ : Option _) = _; kernel_rfl⟩
instance : Ag Tryz.prog 48 := ⟨_, Tryz.underlying48, rfl⟩
instance : Fo Tryz.prog 48 0 0 := ⟨by kernel_rfl⟩
instance : Fdv Tryz.prog 48 0 0 := ⟨_, _, _, Tryz.underlying48, rfl, Tryz.underlying9, rfl, rfl⟩
instance : Fo Tryz.prog 48 1 1 := ⟨by kernel_rfl⟩
instance : Fdv Tryz.prog 48 1 1 := ⟨_, _, _, Tryz.underlying48, rfl, Tryz.underlying3, rfl, rfl⟩
instance : Plc Tryz.prog 48 (List.toArray [(0, 1), (1, 1)]) := ⟨_, Tryz.underlying48, fun w => by kernel_rfl⟩
instance : Con Tryz.prog 48 := ⟨_, Tryz.underlying48, fun _ => nofun⟩
instance : In Tryz.prog 49 (.agg (List.toArray [(.int .i64 0), (.int .i64 0), (.bool false)])) 3 24 := ⟨by show (_ : Option _) = _; kernel_rfl⟩
instance : Ag Tryz.prog 49 := ⟨_, Tryz.underlying49, rfl⟩
instance : Fo Tryz.prog 49 0 0 := ⟨by kernel_rfl⟩
instance : Fdv Tryz.prog 49 0 0 := ⟨_, _, _, Tryz.underlying49, rfl, Tryz.underlying3, rfl, rfl⟩
instance : Fo Tryz.prog 49 1 1 := ⟨by kernel_rfl⟩
instance : Fdv Tryz.prog 49 1 1 := ⟨_, _, _, Tryz.underlying49, rfl, Tryz.underlying3, rfl, rfl⟩
instance : Fo Tryz.prog 49 2 2 := ⟨by kernel_rfl⟩
instance : Fdv Tryz.prog 49 2 2 := ⟨_, _, _, Tryz.underlying49, rfl, Tryz.underlying4, rfl, rfl⟩
instance : Plc Tryz.prog 49 (List.toArray [(0, 1), (1, 1), (2, 1)]) := ⟨_, Tryz.underlying49, fun w => by kernel_rfl⟩
instance : Con Tryz.prog 49 := ⟨_, Tryz.underlying49, fun _ => nofun⟩
instance : In Tryz.prog 50 (.agg (List.toArray [(.int .i64 0), (.int .i64 0), (.bool false)])) 3 24 := ⟨by show (_ : Option _) = _; kernel_rfl⟩
instance : Ag Tryz.prog 50 := ⟨_, Tryz.underlying50, rfl⟩
instance : Fo Tryz.prog 50 0 0 := ⟨by kernel_rfl⟩
instance : Fdv Tryz.prog 50 0 0 := ⟨_, _, _, Tryz.underlying50, rfl, Tryz.underlying3, rfl, rfl⟩
instance : Fo Tryz.prog 50 1 1 := ⟨by kernel_rfl⟩
instance : Fdv Tryz.prog 50 1 1 := ⟨_, _, _, Tryz.underlying50, rfl, Tryz.underlying3, rfl, rfl⟩
instance : Fo Tryz.prog 50 2 2 := ⟨by kernel_rfl⟩
instance : Fdv Tryz.prog 50 2 2 := ⟨_, _, _, Tryz.underlying50, rfl, Tryz.underlying4, rfl, rfl⟩
instance : Plc Tryz.prog 50 (List.toArray [(0, 1), (1, 1), (2, 1)]) := ⟨_, Tryz.underlying50, fun w => by kernel_rfl⟩
instance : Con Tryz.prog 50 := ⟨_, Tryz.underlying50, fun _ => nofun⟩
instance : In Tryz.prog 51 (.agg (List.toArray [(.int .i64 0), (.bool false), (.string ⟨([] : List UInt8).toArray⟩), (.string ⟨([] : List UInt8).toArray⟩), (.int .i64 0), (.int .i64 0), (.string ⟨([] : List UInt8).toArray⟩), (.slice none 0 0), (.bool false), (.int .i64 0), (.int .i64 0), (.bool false), (.slice none 0 0), (.bool false), (.int .i64 0)])) 15 176 := ⟨by show (_ : Option _) = _; kernel_rfl⟩
instance : Ag Tryz.prog 51 := ⟨_, Tryz.underlying51, rfl⟩
instance : Fo Tryz.prog 51 0 0 := ⟨by kernel_rfl⟩
instance : Fdv Tryz.prog 51 0 0 := ⟨_, _, _, Tryz.underlying51, rfl, Tryz.underlying3, rfl, rfl⟩
instance : Fo Tryz.prog 51 1 1 := ⟨by kernel_rfl⟩
instance : Fo Tryz.prog 51 2 8 := ⟨by kernel_rfl⟩
instance : Fdv Tryz.prog 51 2 8 := ⟨_, _, _, Tryz.underlying51, rfl, Tryz.underlying4, rfl, rfl⟩
instance : Fo Tryz.prog 51 3 9 := ⟨by kernel_rfl⟩
instance : Fo Tryz.prog 51 4 12 := ⟨by kernel_rfl⟩
instance : Fdv Tryz.prog 51 4 12 := ⟨_, _, _, Tryz.underlying51, rfl, Tryz.underlying33, rfl, rfl⟩
instance : Fo Tryz.prog 51 5 13 := ⟨by kernel_rfl⟩
instance : Fdv Tryz.prog 51 5 13 := ⟨_, _, _, Tryz.underlying51, rfl, Tryz.underlying4, rfl, rfl⟩
instance : Fo Tryz.prog 51 6 14 := ⟨by kernel_rfl⟩
instance : Fdv Tryz.prog 51 6 14 := ⟨_, _, _, Tryz.underlying51, rfl, Tryz.underlying3, rfl, rfl⟩
instance : Plc Tryz.prog 51 (List.toArray [(0, 1), (1, 7), (8, 1), (9, 3), (12, 1), (13, 1), (14, 1)]) := ⟨_, Tryz.underlying51, fun w => by kernel_rfl⟩
instance : Con Tryz.prog 51 := ⟨_, Tryz.underlying51, fun _ => nofun⟩
instance : In Tryz.prog 52 (.agg (List.toArray [(.int .i64 0), (.bool false), (.string ⟨([] : List UInt8).toArray⟩), (.string ⟨([] : List UInt8).toArray⟩), (.int .i64 0), (.int .i64 0), (.string ⟨([] : List UInt8).toArray⟩), (.slice none 0 0), (.bool false), (.int .i64 0), (.int .i64 0), (.bool false), (.slice none 0 0), (.bool false), (.int .i64 0)])) 15 176 := ⟨by show (_ : Option _) = _; kernel_rfl⟩
instance : Ag Tryz.prog 52 := ⟨_, Tryz.underlying52, rfl⟩
instance : Fo Tryz.prog 52 0 0 := ⟨by kernel_rfl⟩
instance : Fdv Tryz.prog 52 0 0 := ⟨_, _, _, Tryz.underlying52, rfl, Tryz.underlying3, rfl, rfl⟩
instance : Fo Tryz.prog 52 1 1 := ⟨by kernel_rfl⟩
instance : Fo Tryz.prog 52 2 8 := ⟨by kernel_rfl⟩
instance : Fdv Tryz.prog 52 2 8 := ⟨_, _, _, Tryz.underlying52, rfl, Tryz.underlying4, rfl, rfl⟩
instance : Fo Tryz.prog 52 3 9 := ⟨by kernel_rfl⟩
instance : Fo Tryz.prog 52 4 12 := ⟨by kernel_rfl⟩
instance : Fdv Tryz.prog 52 4 12 := ⟨_, _, _, Tryz.underlying52, rfl, Tryz.underlying33, rfl, rfl⟩
instance : Fo Tryz.prog 52 5 13 := ⟨by kernel_rfl⟩
instance : Fdv Tryz.prog 52 5 13 := ⟨_, _, _, Tryz.underlying52, rfl, Tryz.underlying4, rfl, rfl⟩
instance : Fo Tryz.prog 52 6 14 := ⟨by kernel_rfl⟩
instance : Fdv Tryz.prog 52 6 14 := ⟨_, _, _, Tryz.underlying52, rfl, Tryz.underlying3, rfl, rfl⟩
instance : Plc Tryz.prog 52 (List.toArray [(0, 1), (1, 7), (8, 1), (9, 3), (12, 1), (13, 1), (14, 1)]) := ⟨_, Tryz.underlying52, fun w => by kernel_rfl⟩
instance : Con Tryz.prog 52 := ⟨_, Tryz.underlying52, fun _ => nofun⟩
instance : In Tryz.prog 53 .nilFunc 1 8 := ⟨by show (_ : Option _) = _; kernel_rfl⟩
instance : Fl Tryz.prog 53 := ⟨_, Tryz.underlying53, rfl⟩
instance : In Tryz.prog 54 .nilFunc 1 8 := ⟨by show (_ : Option _) = _; kernel_rfl⟩
instance : Fl Tryz.prog 54 := ⟨_, Tryz.underlying54, rfl⟩
instance : In Tryz.prog 55 (.pointer none) 1 8 := ⟨by show (_ : Option _) = _; kernel_rfl⟩
instance : Fl Tryz.prog 55 := ⟨_, Tryz.underlying55, rfl⟩
instance : Ptr Tryz.prog 55 := ⟨by kernel_rfl⟩
instance : Con Tryz.prog 55 := ⟨_, Tryz.underlying55, fun _ => nofun⟩
instance : In Tryz.prog 57 .nilFunc 1 8 := ⟨by show (_ : Option _) = _; kernel_rfl⟩
instance : Fl Tryz.prog 57 := ⟨_, Tryz.underlying57, rfl⟩
instance : In Tryz.prog 59 .nilFunc 1 8 := ⟨by show (_ : Option _) = _; kernel_rfl⟩
instance : Fl Tryz.prog 59 := ⟨_, Tryz.underlying59, rfl⟩
instance : In Tryz.prog 60 .nilFunc 1 8 := ⟨by show (_ : Option _) = _; kernel_rfl⟩
instance : Fl Tryz.prog 60 := ⟨_, Tryz.underlying60, rfl⟩
instance : In Tryz.prog 62 .nilFunc 1 8 := ⟨by show (_ : Option _) = _; kernel_rfl⟩
instance : Fl Tryz.prog 62 := ⟨_, Tryz.underlying62, rfl⟩
instance : In Tryz.prog 64 .nilFunc 1 8 := ⟨by show (_ : Option _) = _; kernel_rfl⟩
instance : Fl Tryz.prog 64 := ⟨_, Tryz.underlying64, rfl⟩
instance : In Tryz.prog 65 .nilFunc 1 8 := ⟨by show (_ : Option _) = _; kernel_rfl⟩
instance : Fl Tryz.prog 65 := ⟨_, Tryz.underlying65, rfl⟩
instance : In Tryz.prog 66 (.slice none 0 0) 1 24 := ⟨by show (_ : Option _) = _; kernel_rfl⟩
instance : Fl Tryz.prog 66 := ⟨_, Tryz.underlying66, rfl⟩
instance : Sli Tryz.prog 66 33 := ⟨Tryz.underlying66⟩
instance : In Tryz.prog 67 (.pointer none) 1 8 := ⟨by show (_ : Option _) = _; kernel_rfl⟩
instance : Fl Tryz.prog 67 := ⟨_, Tryz.underlying67, rfl⟩
instance : Ptr Tryz.prog 67 := ⟨by kernel_rfl⟩
instance : Con Tryz.prog 67 := ⟨_, Tryz.underlying67, fun _ => nofun⟩
instance : In Tryz.prog 69 .nilFunc 1 8 := ⟨by show (_ : Option _) = _; kernel_rfl⟩
instance : Fl Tryz.prog 69 := ⟨_, Tryz.underlying69, rfl⟩
instance : In Tryz.prog 71 .nilFunc 1 8 := ⟨by show (_ : Option _) = _; kernel_rfl⟩
instance : Fl Tryz.prog 71 := ⟨_, Tryz.underlying71, rfl⟩
instance : In Tryz.prog 72 .nilFunc 1 8 := ⟨by show (_ : Option _) = _; kernel_rfl⟩
instance : Fl Tryz.prog 72 := ⟨_, Tryz.underlying72, rfl⟩
instance : In Tryz.prog 73 .nilFunc 1 8 := ⟨by show (_ : Option _) = _; kernel_rfl⟩
instance : Fl Tryz.prog 73 := ⟨_, Tryz.underlying73, rfl⟩
instance : In Tryz.prog 74 .nilFunc 1 8 := ⟨by show (_ : Option _) = _; kernel_rfl⟩
instance : Fl Tryz.prog 74 := ⟨_, Tryz.underlying74, rfl⟩
instance : In Tryz.prog 75 (.slice none 0 0) 1 24 := ⟨by show (_ : Option _) = _; kernel_rfl⟩
instance : Fl Tryz.prog 75 := ⟨_, Tryz.underlying75, rfl⟩
instance : Sli Tryz.prog 75 3 := ⟨Tryz.underlying75⟩
instance : In Tryz.prog 77 .nilFunc 1 8 := ⟨by show (_ : Option _) = _; kernel_rfl⟩
instance : Fl Tryz.prog 77 := ⟨_, Tryz.underlying77, rfl⟩
instance : In Tryz.prog 78 .nilFunc 1 8 := ⟨by show (_ : Option _) = _; kernel_rfl⟩
instance : Fl Tryz.prog 78 := ⟨_, Tryz.underlying78, rfl⟩
instance : In Tryz.prog 79 (.slice none 0 0) 1 24 := ⟨by show (_ : Option _) = _; kernel_rfl⟩
instance : Fl Tryz.prog 79 := ⟨_, Tryz.underlying79, rfl⟩
instance : Sli Tryz.prog 79 24 := ⟨Tryz.underlying79⟩
instance : In Tryz.prog 80 (.slice none 0 0) 1 24 := ⟨by show (_ : Option _) = _; kernel_rfl⟩
instance : Fl Tryz.prog 80 := ⟨_, Tryz.underlying80, rfl⟩
instance : Sli Tryz.prog 80 9 := ⟨Tryz.underlying80⟩
instance : In Tryz.prog 81 .nilFunc 1 8 := ⟨by show (_ : Option _) = _; kernel_rfl⟩
instance : Fl Tryz.prog 81 := ⟨_, Tryz.underlying81, rfl⟩
instance : In Tryz.prog 82 .nilFunc 1 8 := ⟨by show (_ : Option _) = _; kernel_rfl⟩
instance : Fl Tryz.prog 82 := ⟨_, Tryz.underlying82, rfl⟩
instance : In Tryz.prog 83 .nilFunc 1 8 := ⟨by show (_ : Option _) = _; kernel_rfl⟩
instance : Fl Tryz.prog 83 := ⟨_, Tryz.underlying83, rfl⟩
instance : In Tryz.prog 84 .nilFunc 1 8 := ⟨by show (_ : Option _) = _; kernel_rfl⟩
instance : Fl Tryz.prog 84 := ⟨_, Tryz.underlying84, rfl⟩
instance : In Tryz.prog 85 (.pointer none) 1 8 := ⟨by show (_ : Option _) = _; kernel_rfl⟩
instance : Fl Tryz.prog 85 := ⟨_, Tryz.underlying85, rfl⟩
instance : Ptr Tryz.prog 85 := ⟨by kernel_rfl⟩
instance : Con Tryz.prog 85 := ⟨_, Tryz.underlying85, fun _ => nofun⟩
instance : In Tryz.prog 86 (.agg (List.toArray [(.pointer none), (.slice none 0 0)])) 2 32 := ⟨by show (_ : Option _) = _; kernel_rfl⟩
instance : Ag Tryz.prog 86 := ⟨_, Tryz.underlying86, rfl⟩
instance : Fo Tryz.prog 86 0 0 := ⟨by kernel_rfl⟩
instance : Fdv Tryz.prog 86 0 0 := ⟨_, _, _, Tryz.underlying86, rfl, Tryz.underlying85, rfl, rfl⟩
instance : Fo Tryz.prog 86 1 1 := ⟨by kernel_rfl⟩
instance : Fdv Tryz.prog 86 1 1 := ⟨_, _, _, Tryz.underlying86, rfl, Tryz.underlying33, rfl, rfl⟩
instance : Plc Tryz.prog 86 (List.toArray [(0, 1), (1, 1)]) := ⟨_, Tryz.underlying86, fun w => by kernel_rfl⟩
instance : Con Tryz.prog 86 := ⟨_, Tryz.underlying86, fun _ => nofun⟩
instance : In Tryz.prog 87 (.agg (List.toArray [(.pointer none), (.slice none 0 0)])) 2 32 := ⟨by show (_ : Option _) = _; kernel_rfl⟩
instance : Ag Tryz.prog 87 := ⟨_, Tryz.underlying87, rfl⟩
instance : Fo Tryz.prog 87 0 0 := ⟨by kernel_rfl⟩
instance : Fdv Tryz.prog 87 0 0 := ⟨_, _, _, Tryz.underlying87, rfl, Tryz.underlying85, rfl, rfl⟩
instance : Fo Tryz.prog 87 1 1 := ⟨by kernel_rfl⟩
instance : Fdv Tryz.prog 87 1 1 := ⟨_, _, _, Tryz.underlying87, rfl, Tryz.underlying33, rfl, rfl⟩
instance : Plc Tryz.prog 87 (List.toArray [(0, 1), (1, 1)]) := ⟨_, Tryz.underlying87, fun w => by kernel_rfl⟩
instance : Con Tryz.prog 87 := ⟨_, Tryz.underlying87, fun _ => nofun⟩
instance : In Tryz.prog 88 .nilIface 1 16 := ⟨by show (_ : Option _) = _; kernel_rfl⟩
instance : Fl Tryz.prog 88 := ⟨_, Tryz.underlying88, rfl⟩
instance : Ifc Tryz.prog 88 := ⟨by kernel_rfl⟩
instance : In Tryz.prog 89 .nilIface 1 16 := ⟨by show (_ : Option _) = _; kernel_rfl⟩
instance : Fl Tryz.prog 89 := ⟨_, Tryz.underlying89, rfl⟩
instance : Ifc Tryz.prog 89 := ⟨by kernel_rfl⟩
instance : In Tryz.prog 91 .nilFunc 1 8 := ⟨by show (_ : Option _) = _; kernel_rfl⟩
instance : Fl Tryz.prog 91 := ⟨_, Tryz.underlying91, rfl⟩
instance : In Tryz.prog 92 .nilFunc 1 8 := ⟨by show (_ : Option _) = _; kernel_rfl⟩
instance : Fl Tryz.prog 92 := ⟨_, Tryz.underlying92, rfl⟩
instance : In Tryz.prog 94 .nilFunc 1 8 := ⟨by show (_ : Option _) = _; kernel_rfl⟩
instance : Fl Tryz.prog 94 := ⟨_, Tryz.underlying94, rfl⟩
instance : In Tryz.prog 96 .nilFunc 1 8 := ⟨by show (_ : Option _) = _; kernel_rfl⟩
instance : Fl Tryz.prog 96 := ⟨_, Tryz.underlying96, rfl⟩
instance : In Tryz.prog 97 .nilFunc 1 8 := ⟨by show (_ : Option _) = _; kernel_rfl⟩
instance : Fl Tryz.prog 97 := ⟨_, Tryz.underlying97, rfl⟩
instance : In Tryz.prog 98 .nilFunc 1 8 := ⟨by show (_ : Option _) = _; kernel_rfl⟩
instance : Fl Tryz.prog 98 := ⟨_, Tryz.underlying98, rfl⟩
instance : In Tryz.prog 99 (.agg (List.toArray [(.int .i64 0), (.int .i64 0), (.int .i64 0), (.slice none 0 0), .nilFunc, (.bool false), (.string ⟨([] : List UInt8).toArray⟩), (.string ⟨([] : List UInt8).toArray⟩), (.int .i64 0), (.int .i64 0), (.string ⟨([] : List UInt8).toArray⟩), (.slice none 0 0), (.bool false), .nilIface])) 14 176 := ⟨by show (_ : Option _) = _; kernel_rfl⟩
instance : Ag Tryz.prog 99 := ⟨_, Tryz.underlying99, rfl⟩
instance : Fo Tryz.prog 99 0 0 := ⟨by kernel_rfl⟩
instance : Fdv Tryz.prog 99 0 0 := ⟨_, _, _, Tryz.underlying99, rfl, Tryz.underlying3, rfl, rfl⟩
instance : Fo Tryz.prog 99 1 1 := ⟨by kernel_rfl⟩
instance : Fdv Tryz.prog 99 1 1 := ⟨_, _, _, Tryz.underlying99, rfl, Tryz.underlying3, rfl, rfl⟩
instance : Fo Tryz.prog 99 2 2 := ⟨by kernel_rfl⟩
instance : Fdv Tryz.prog 99 2 2 := ⟨_, _, _, Tryz.underlying99, rfl, Tryz.underlying3, rfl, rfl⟩
instance : Fo Tryz.prog 99 3 3 := ⟨by kernel_rfl⟩
instance : Fdv Tryz.prog 99 3 3 := ⟨_, _, _, Tryz.underlying99, rfl, Tryz.underlying33, rfl, rfl⟩
instance : Fo Tryz.prog 99 4 4 := ⟨by kernel_rfl⟩
instance : Fdv Tryz.prog 99 4 4 := ⟨_, _, _, Tryz.underlying99, rfl, Tryz.underlying98, rfl, rfl⟩
instance : Fo Tryz.prog 99 5 5 := ⟨by kernel_rfl⟩
instance : Fo Tryz.prog 99 6 12 := ⟨by kernel_rfl⟩
instance : Fdv Tryz.prog 99 6 12 := ⟨_, _, _, Tryz.underlying99, rfl, Tryz.underlying4, rfl, rfl⟩
instance : Fo Tryz.prog 99 7 13 := ⟨by kernel_rfl⟩
instance : Fdv Tryz.prog 99 7 13 := ⟨_, _, _, Tryz.underlying99, rfl, Tryz.underlying89, rfl, rfl⟩
instance : Plc Tryz.prog 99 (List.toArray [(0, 1), (1, 1), (2, 1), (3, 1), (4, 1), (5, 7), (12, 1), (13, 1)]) := ⟨_, Tryz.underlying99, fun w => by kernel_rfl⟩
instance : Con Tryz.prog 99 := ⟨_, Tryz.underlying99, fun _ => nofun⟩
instance : In Tryz.prog 100 (.agg (List.toArray [(.int .i64 0), (.int .i64 0), (.int .i64 0), (.slice none 0 0), .nilFunc, (.bool false), (.string ⟨([] : List UInt8).toArray⟩), (.string ⟨([] : List UInt8).toArray⟩), (.int .i64 0), (.int .i64 0), (.string ⟨([] : List UInt8).toArray⟩), (.slice none 0 0), (.bool false), .nilIface])) 14 176 := ⟨by show (_ : Option _) = _; kernel_rfl⟩
instance : Ag Tryz.prog 100 := ⟨_, Tryz.underlying100, rfl⟩
instance : Fo Tryz.prog 100 0 0 := ⟨by kernel_rfl⟩
instance : Fdv Tryz.prog 100 0 0 := ⟨_, _, _, Tryz.underlying100, rfl, Tryz.underlying3, rfl, rfl⟩
instance : Fo Tryz.prog 100 1 1 := ⟨by kernel_rfl⟩
instance : Fdv Tryz.prog 100 1 1 := ⟨_, _, _, Tryz.underlying100, rfl, Tryz.underlying3, rfl, rfl⟩
instance : Fo Tryz.prog 100 2 2 := ⟨by kernel_rfl⟩
instance : Fdv Tryz.prog 100 2 2 := ⟨_, _, _, Tryz.underlying100, rfl, Tryz.underlying3, rfl, rfl⟩
instance : Fo Tryz.prog 100 3 3 := ⟨by kernel_rfl⟩
instance : Fdv Tryz.prog 100 3 3 := ⟨_, _, _, Tryz.underlying100, rfl, Tryz.underlying33, rfl, rfl⟩
instance : Fo Tryz.prog 100 4 4 := ⟨by kernel_rfl⟩
instance : Fdv Tryz.prog 100 4 4 := ⟨_, _, _, Tryz.underlying100, rfl, Tryz.underlying98, rfl, rfl⟩
instance : Fo Tryz.prog 100 5 5 := ⟨by kernel_rfl⟩
instance : Fo Tryz.prog 100 6 12 := ⟨by kernel_rfl⟩
instance : Fdv Tryz.prog 100 6 12 := ⟨_, _, _, Tryz.underlying100, rfl, Tryz.underlying4, rfl, rfl⟩
instance : Fo Tryz.prog 100 7 13 := ⟨by kernel_rfl⟩
instance : Fdv Tryz.prog 100 7 13 := ⟨_, _, _, Tryz.underlying100, rfl, Tryz.underlying89, rfl, rfl⟩
instance : Plc Tryz.prog 100 (List.toArray [(0, 1), (1, 1), (2, 1), (3, 1), (4, 1), (5, 7), (12, 1), (13, 1)]) := ⟨_, Tryz.underlying100, fun w => by kernel_rfl⟩
instance : Con Tryz.prog 100 := ⟨_, Tryz.underlying100, fun _ => nofun⟩
instance : In Tryz.prog 101 .nilFunc 1 8 := ⟨by show (_ : Option _) = _; kernel_rfl⟩
instance : Fl Tryz.prog 101 := ⟨_, Tryz.underlying101, rfl⟩
instance : In Tryz.prog 102 .nilFunc 1 8 := ⟨by show (_ : Option _) = _; kernel_rfl⟩
instance : Fl Tryz.prog 102 := ⟨_, Tryz.underlying102, rfl⟩
instance : In Tryz.prog 104 .nilFunc 1 8 := ⟨by show (_ : Option _) = _; kernel_rfl⟩
instance : Fl Tryz.prog 104 := ⟨_, Tryz.underlying104, rfl⟩
instance : In Tryz.prog 105 (.agg (List.toArray [(.slice none 0 0), (.slice none 0 0), (.int .i64 0), (.bool false), (.int .i64 0)])) 5 72 := ⟨by show (_ : Option _) = _; kernel_rfl⟩
instance : Ag Tryz.prog 105 := ⟨_, Tryz.underlying105, rfl⟩
instance : Fo Tryz.prog 105 0 0 := ⟨by kernel_rfl⟩
instance : Fdv Tryz.prog 105 0 0 := ⟨_, _, _, Tryz.underlying105, rfl, Tryz.underlying33, rfl, rfl⟩
instance : Fo Tryz.prog 105 1 1 := ⟨by kernel_rfl⟩
instance : Fdv Tryz.prog 105 1 1 := ⟨_, _, _, Tryz.underlying105, rfl, Tryz.underlying22, rfl, rfl⟩
instance : Fo Tryz.prog 105 2 2 := ⟨by kernel_rfl⟩
instance : Fdv Tryz.prog 105 2 2 := ⟨_, _, _, Tryz.underlying105, rfl, Tryz.underlying3, rfl, rfl⟩
instance : Fo Tryz.prog 105 3 3 := ⟨by kernel_rfl⟩
instance : Fdv Tryz.prog 105 3 3 := ⟨_, _, _, Tryz.underlying105, rfl, Tryz.underlying4, rfl, rfl⟩
instance : Fo Tryz.prog 105 4 4 := ⟨by kernel_rfl⟩
instance : Fdv Tryz.prog 105 4 4 := ⟨_, _, _, Tryz.underlying105, rfl, Tryz.underlying3, rfl, rfl⟩
instance : Plc Tryz.prog 105 (List.toArray [(0, 1), (1, 1), (2, 1), (3, 1), (4, 1)]) := ⟨_, Tryz.underlying105, fun w => by kernel_rfl⟩
instance : Con Tryz.prog 105 := ⟨_, Tryz.underlying105, fun _ => nofun⟩
instance : In Tryz.prog 106 (.agg (List.toArray [(.slice none 0 0), (.slice none 0 0), (.int .i64 0), (.bool false), (.int .i64 0)])) 5 72 := ⟨by show (_ : Option _) = _; kernel_rfl⟩
instance : Ag Tryz.prog 106 := ⟨_, Tryz.underlying106, rfl⟩
instance : Fo Tryz.prog 106 0 0 := ⟨by kernel_rfl⟩
instance : Fdv Tryz.prog 106 0 0 := ⟨_, _, _, Tryz.underlying106, rfl, Tryz.underlying33, rfl, rfl⟩
instance : Fo Tryz.prog 106 1 1 := ⟨by kernel_rfl⟩
instance : Fdv Tryz.prog 106 1 1 := ⟨_, _, _, Tryz.underlying106, rfl, Tryz.underlying22, rfl, rfl⟩
instance : Fo Tryz.prog 106 2 2 := ⟨by kernel_rfl⟩
instance : Fdv Tryz.prog 106 2 2 := ⟨_, _, _, Tryz.underlying106, rfl, Tryz.underlying3, rfl, rfl⟩
instance : Fo Tryz.prog 106 3 3 := ⟨by kernel_rfl⟩
instance : Fdv Tryz.prog 106 3 3 := ⟨_, _, _, Tryz.underlying106, rfl, Tryz.underlying4, rfl, rfl⟩
instance : Fo Tryz.prog 106 4 4 := ⟨by kernel_rfl⟩
instance : Fdv Tryz.prog 106 4 4 := ⟨_, _, _, Tryz.underlying106, rfl, Tryz.underlying3, rfl, rfl⟩
instance : Plc Tryz.prog 106 (List.toArray [(0, 1), (1, 1), (2, 1), (3, 1), (4, 1)]) := ⟨_, Tryz.underlying106, fun w => by kernel_rfl⟩
instance : Con Tryz.prog 106 := ⟨_, Tryz.underlying106, fun _ => nofun⟩
instance : In Tryz.prog 107 .nilFunc 1 8 := ⟨by show (_ : Option _) = _; kernel_rfl⟩
instance : Fl Tryz.prog 107 := ⟨_, Tryz.underlying107, rfl⟩
instance : In Tryz.prog 108 .nilFunc 1 8 := ⟨by show (_ : Option _) = _; kernel_rfl⟩
instance : Fl Tryz.prog 108 := ⟨_, Tryz.underlying108, rfl⟩
instance : In Tryz.prog 109 .nilFunc 1 8 := ⟨by show (_ : Option _) = _; kernel_rfl⟩
instance : Fl Tryz.prog 109 := ⟨_, Tryz.underlying109, rfl⟩
instance : In Tryz.prog 110 .nilFunc 1 8 := ⟨by show (_ : Option _) = _; kernel_rfl⟩
instance : Fl Tryz.prog 110 := ⟨_, Tryz.underlying110, rfl⟩
instance : In Tryz.prog 111 (.pointer none) 1 8 := ⟨by show (_ : Option _) = _; kernel_rfl⟩
instance : Fl Tryz.prog 111 := ⟨_, Tryz.underlying111, rfl⟩
instance : Ptr Tryz.prog 111 := ⟨by kernel_rfl⟩
instance : Con Tryz.prog 111 := ⟨_, Tryz.underlying111, fun _ => nofun⟩
instance : In Tryz.prog 112 (.agg (List.toArray [(.string ⟨([] : List UInt8).toArray⟩), (.int .i64 0), (.int .i64 0), .nilFunc, (.pointer none), (.pointer none), (.bool false), (.string ⟨([] : List UInt8).toArray⟩), (.string ⟨([] : List UInt8).toArray⟩), (.int .i64 0), (.int .i64 0), (.string ⟨([] : List UInt8).toArray⟩), (.slice none 0 0), (.int .i64 0), (.int .i64 0), (.bool false), (.bool false), (.int .i64 0)])) 18 192 := ⟨by show (_ : Option _) = _; kernel_rfl⟩
instance : Ag Tryz.prog 112 := ⟨_, Tryz.underlying112, rfl⟩
instance : Fo Tryz.prog 112 0 0 := ⟨by kernel_rfl⟩
instance : Fdv Tryz.prog 112 0 0 := ⟨_, _, _, Tryz.underlying112, rfl, Tryz.underlying9, rfl, rfl⟩
instance : Fo Tryz.prog 112 1 1 := ⟨by kernel_rfl⟩
instance : Fdv Tryz.prog 112 1 1 := ⟨_, _, _, Tryz.underlying112, rfl, Tryz.underlying3, rfl, rfl⟩
instance : Fo Tryz.prog 112 2 2 := ⟨by kernel_rfl⟩
instance : Fdv Tryz.prog 112 2 2 := ⟨_, _, _, Tryz.underlying112, rfl, Tryz.underlying3, rfl, rfl⟩
instance : Fo Tryz.prog 112 3 3 := ⟨by kernel_rfl⟩
instance : Fdv Tryz.prog 112 3 3 := ⟨_, _, _, Tryz.underlying112, rfl, Tryz.underlying110, rfl, rfl⟩
instance : Fo Tryz.prog 112 4 4 := ⟨by kernel_rfl⟩
instance : Fdv Tryz.prog 112 4 4 := ⟨_, _, _, Tryz.underlying112, rfl, Tryz.underlying39, rfl, rfl⟩
instance : Fo Tryz.prog 112 5 5 := ⟨by kernel_rfl⟩
instance : Fdv Tryz.prog 112 5 5 := ⟨_, _, _, Tryz.underlying112, rfl, Tryz.underlying111, rfl, rfl⟩
instance : Fo Tryz.prog 112 6 6 := ⟨by kernel_rfl⟩
instance : Fo Tryz.prog 112 7 13 := ⟨by kernel_rfl⟩
instance : Fo Tryz.prog 112 8 16 := ⟨by kernel_rfl⟩
instance : Fdv Tryz.prog 112 8 16 := ⟨_, _, _, Tryz.underlying112, rfl, Tryz.underlying4, rfl, rfl⟩
instance : Fo Tryz.prog 112 9 17 := ⟨by kernel_rfl⟩
instance : Fdv Tryz.prog 112 9 17 := ⟨_, _, _, Tryz.underlying112, rfl, Tryz.underlying25, rfl, rfl⟩
instance : Plc Tryz.prog 112 (List.toArray [(0, 1), (1, 1), (2, 1), (3, 1), (4, 1), (5, 1), (6, 7), (13, 3), (16, 1), (17, 1)]) := ⟨_, Tryz.underlying112, fun w => by kernel_rfl⟩
instance : Con Tryz.prog 112 := ⟨_, Tryz.underlying112, fun _ => nofun⟩
instance : In Tryz.prog 113 (.agg (List.toArray [(.string ⟨([] : List UInt8).toArray⟩), (.int .i64 0), (.int .i64 0), .nilFunc, (.pointer none), (.pointer none), (.bool false), (.string ⟨([] : List UInt8).toArray⟩), (.string ⟨([] : List UInt8).toArray⟩), (.int .i64 0), (.int .i64 0), (.string ⟨([] : List UInt8).toArray⟩), (.slice none 0 0), (.int .i64 0), (.int .i64 0), (.bool false), (.bool false), (.int .i64 0)])) 18 192 := ⟨by show (_ : Option _) = _; kernel_rfl⟩
instance : Ag Tryz.prog 113 := ⟨_, Tryz.underlying113, rfl⟩
instance : Fo Tryz.prog 113 0 0 := ⟨by kernel_rfl⟩
instance : Fdv Tryz.prog 113 0 0 := ⟨_, _, _, Tryz.underlying113, rfl, Tryz.underlying9, rfl, rfl⟩
instance : Fo Tryz.prog 113 1 1 := ⟨by kernel_rfl⟩
instance : Fdv Tryz.prog 113 1 1 := ⟨_, _, _, Tryz.underlying113, rfl, Tryz.underlying3, rfl, rfl⟩
instance : Fo Tryz.prog 113 2 2 := ⟨by kernel_rfl⟩
instance : Fdv Tryz.prog 113 2 2 := ⟨_, _, _, Tryz.underlying113, rfl, Tryz.underlying3, rfl, rfl⟩
instance : Fo Tryz.prog 113 3 3 := ⟨by kernel_rfl⟩
instance : Fdv Tryz.prog 113 3 3 := ⟨_, _, _, Tryz.underlying113, rfl, Tryz.underlying110, rfl, rfl⟩
instance : Fo Tryz.prog 113 4 4 := ⟨by kernel_rfl⟩
instance : Fdv Tryz.prog 113 4 4 := ⟨_, _, _, Tryz.underlying113, rfl, Tryz.underlying39, rfl, rfl⟩
instance : Fo Tryz.prog 113 5 5 := ⟨by kernel_rfl⟩
instance : Fdv Tryz.prog 113 5 5 := ⟨_, _, _, Tryz.underlying113, rfl, Tryz.underlying111, rfl, rfl⟩
instance : Fo Tryz.prog 113 6 6 := ⟨by kernel_rfl⟩
instance : Fo Tryz.prog 113 7 13 := ⟨by kernel_rfl⟩
instance : Fo Tryz.prog 113 8 16 := ⟨by kernel_rfl⟩
instance : Fdv Tryz.prog 113 8 16 := ⟨_, _, _, Tryz.underlying113, rfl, Tryz.underlying4, rfl, rfl⟩
instance : Fo Tryz.prog 113 9 17 := ⟨by kernel_rfl⟩
instance : Fdv Tryz.prog 113 9 17 := ⟨_, _, _, Tryz.underlying113, rfl, Tryz.underlying25, rfl, rfl⟩
instance : Plc Tryz.prog 113 (List.toArray [(0, 1), (1, 1), (2, 1), (3, 1), (4, 1), (5, 1), (6, 7), (13, 3), (16, 1), (17, 1)]) := ⟨_, Tryz.underlying113, fun w => by kernel_rfl⟩
instance : Con Tryz.prog 113 := ⟨_, Tryz.underlying113, fun _ => nofun⟩
instance : In Tryz.prog 116 .nilFunc 1 8 := ⟨by show (_ : Option _) = _; kernel_rfl⟩
instance : Fl Tryz.prog 116 := ⟨_, Tryz.underlying116, rfl⟩
instance : In Tryz.prog 117 .nilFunc 1 8 := ⟨by show (_ : Option _) = _; kernel_rfl⟩
instance : Fl Tryz.prog 117 := ⟨_, Tryz.underlying117, rfl⟩
instance : In Tryz.prog 118 (.agg (List.toArray [(.int .i64 0), (.int .i64 0), .nilFunc, (.pointer none), (.pointer none), (.slice none 0 0), (.bool false), (.bool false), (.bool false), (.int .i64 0)])) 10 80 := ⟨by show (_ : Option _) = _; kernel_rfl⟩
instance : Ag Tryz.prog 118 := ⟨_, Tryz.underlying118, rfl⟩
instance : Fo Tryz.prog 118 0 0 := ⟨by kernel_rfl⟩
instance : Fdv Tryz.prog 118 0 0 := ⟨_, _, _, Tryz.underlying118, rfl, Tryz.underlying3, rfl, rfl⟩
instance : Fo Tryz.prog 118 1 1 := ⟨by kernel_rfl⟩
instance : Fdv Tryz.prog 118 1 1 := ⟨_, _, _, Tryz.underlying118, rfl, Tryz.underlying3, rfl, rfl⟩
instance : Fo Tryz.prog 118 2 2 := ⟨by kernel_rfl⟩
instance : Fdv Tryz.prog 118 2 2 := ⟨_, _, _, Tryz.underlying118, rfl, Tryz.underlying117, rfl, rfl⟩
instance : Fo Tryz.prog 118 3 3 := ⟨by kernel_rfl⟩
instance : Fdv Tryz.prog 118 3 3 := ⟨_, _, _, Tryz.underlying118, rfl, Tryz.underlying39, rfl, rfl⟩
instance : Fo Tryz.prog 118 4 4 := ⟨by kernel_rfl⟩
instance : Fdv Tryz.prog 118 4 4 := ⟨_, _, _, Tryz.underlying118, rfl, Tryz.underlying111, rfl, rfl⟩
instance : Fo Tryz.prog 118 5 5 := ⟨by kernel_rfl⟩
instance : Fdv Tryz.prog 118 5 5 := ⟨_, _, _, Tryz.underlying118, rfl, Tryz.underlying33, rfl, rfl⟩
instance : Fo Tryz.prog 118 6 6 := ⟨by kernel_rfl⟩
instance : Fdv Tryz.prog 118 6 6 := ⟨_, _, _, Tryz.underlying118, rfl, Tryz.underlying4, rfl, rfl⟩
instance : Fo Tryz.prog 118 7 7 := ⟨by kernel_rfl⟩
instance : Fdv Tryz.prog 118 7 7 := ⟨_, _, _, Tryz.underlying118, rfl, Tryz.underlying4, rfl, rfl⟩
instance : Fo Tryz.prog 118 8 8 := ⟨by kernel_rfl⟩
instance : Fdv Tryz.prog 118 8 8 := ⟨_, _, _, Tryz.underlying118, rfl, Tryz.underlying4, rfl, rfl⟩
instance : Fo Tryz.prog 118 9 9 := ⟨by kernel_rfl⟩
instance : Fdv Tryz.prog 118 9 9 := ⟨_, _, _, Tryz.underlying118, rfl, Tryz.underlying3, rfl, rfl⟩
instance : Plc Tryz.prog 118 (List.toArray [(0, 1), (1, 1), (2, 1), (3, 1), (4, 1), (5, 1), (6, 1), (7, 1), (8, 1), (9, 1)]) := ⟨_, Tryz.underlying118, fun w => by kernel_rfl⟩
instance : Con Tryz.prog 118 := ⟨_, Tryz.underlying118, fun _ => nofun⟩
instance : In Tryz.prog 119 (.agg (List.toArray [(.int .i64 0), (.int .i64 0), .nilFunc, (.pointer none), (.pointer none), (.slice none 0 0), (.bool false), (.bool false), (.bool false), (.int .i64 0)])) 10 80 := ⟨by show (_ : Option _) = _; kernel_rfl⟩
instance : Ag Tryz.prog 119 := ⟨_, Tryz.underlying119, rfl⟩
instance : Fo Tryz.prog 119 0 0 := ⟨by kernel_rfl⟩
instance : Fdv Tryz.prog 119 0 0 := ⟨_, _, _, Tryz.underlying119, rfl, Tryz.underlying3, rfl, rfl⟩
instance : Fo Tryz.prog 119 1 1 := ⟨by kernel_rfl⟩
instance : Fdv Tryz.prog 119 1 1 := ⟨_, _, _, Tryz.underlying119, rfl, Tryz.underlying3, rfl, rfl⟩
instance : Fo Tryz.prog 119 2 2 := ⟨by kernel_rfl⟩
instance : Fdv Tryz.prog 119 2 2 := ⟨_, _, _, Tryz.underlying119, rfl, Tryz.underlying117, rfl, rfl⟩
instance : Fo Tryz.prog 119 3 3 := ⟨by kernel_rfl⟩
instance : Fdv Tryz.prog 119 3 3 := ⟨_, _, _, Tryz.underlying119, rfl, Tryz.underlying39, rfl, rfl⟩
instance : Fo Tryz.prog 119 4 4 := ⟨by kernel_rfl⟩
instance : Fdv Tryz.prog 119 4 4 := ⟨_, _, _, Tryz.underlying119, rfl, Tryz.underlying111, rfl, rfl⟩
instance : Fo Tryz.prog 119 5 5 := ⟨by kernel_rfl⟩
instance : Fdv Tryz.prog 119 5 5 := ⟨_, _, _, Tryz.underlying119, rfl, Tryz.underlying33, rfl, rfl⟩
instance : Fo Tryz.prog 119 6 6 := ⟨by kernel_rfl⟩
instance : Fdv Tryz.prog 119 6 6 := ⟨_, _, _, Tryz.underlying119, rfl, Tryz.underlying4, rfl, rfl⟩
instance : Fo Tryz.prog 119 7 7 := ⟨by kernel_rfl⟩
instance : Fdv Tryz.prog 119 7 7 := ⟨_, _, _, Tryz.underlying119, rfl, Tryz.underlying4, rfl, rfl⟩
instance : Fo Tryz.prog 119 8 8 := ⟨by kernel_rfl⟩
instance : Fdv Tryz.prog 119 8 8 := ⟨_, _, _, Tryz.underlying119, rfl, Tryz.underlying4, rfl, rfl⟩
instance : Fo Tryz.prog 119 9 9 := ⟨by kernel_rfl⟩
instance : Fdv Tryz.prog 119 9 9 := ⟨_, _, _, Tryz.underlying119, rfl, Tryz.underlying3, rfl, rfl⟩
instance : Plc Tryz.prog 119 (List.toArray [(0, 1), (1, 1), (2, 1), (3, 1), (4, 1), (5, 1), (6, 1), (7, 1), (8, 1), (9, 1)]) := ⟨_, Tryz.underlying119, fun w => by kernel_rfl⟩
instance : Con Tryz.prog 119 := ⟨_, Tryz.underlying119, fun _ => nofun⟩
instance : In Tryz.prog 120 .nilFunc 1 8 := ⟨by show (_ : Option _) = _; kernel_rfl⟩
instance : Fl Tryz.prog 120 := ⟨_, Tryz.underlying120, rfl⟩
instance : In Tryz.prog 121 .nilFunc 1 8 := ⟨by show (_ : Option _) = _; kernel_rfl⟩
instance : Fl Tryz.prog 121 := ⟨_, Tryz.underlying121, rfl⟩
instance : In Tryz.prog 123 .nilFunc 1 8 := ⟨by show (_ : Option _) = _; kernel_rfl⟩
instance : Fl Tryz.prog 123 := ⟨_, Tryz.underlying123, rfl⟩
instance : In Tryz.prog 124 (.pointer none) 1 8 := ⟨by show (_ : Option _) = _; kernel_rfl⟩
instance : Fl Tryz.prog 124 := ⟨_, Tryz.underlying124, rfl⟩
instance : Ptr Tryz.prog 124 := ⟨by kernel_rfl⟩
instance : Con Tryz.prog 124 := ⟨_, Tryz.underlying124, fun _ => nofun⟩
instance : In Tryz.prog 125 .nilFunc 1 8 := ⟨by show (_ : Option _) = _; kernel_rfl⟩
instance : Fl Tryz.prog 125 := ⟨_, Tryz.underlying125, rfl⟩
instance : In Tryz.prog 126 (.agg (List.toArray [(.int .i64 0), .nilIface])) 2 24 := ⟨by show (_ : Option _) = _; kernel_rfl⟩
instance : Ag Tryz.prog 126 := ⟨_, Tryz.underlying126, rfl⟩
instance : Fo Tryz.prog 126 0 0 := ⟨by kernel_rfl⟩
instance : Fdv Tryz.prog 126 0 0 := ⟨_, _, _, Tryz.underlying126, rfl, Tryz.underlying3, rfl, rfl⟩
instance : Fo Tryz.prog 126 1 1 := ⟨by kernel_rfl⟩
instance : Fdv Tryz.prog 126 1 1 := ⟨_, _, _, Tryz.underlying126, rfl, Tryz.underlying89, rfl, rfl⟩
instance : Plc Tryz.prog 126 (List.toArray [(0, 1), (1, 1)]) := ⟨_, Tryz.underlying126, fun w => by kernel_rfl⟩
instance : Con Tryz.prog 126 := ⟨_, Tryz.underlying126, fun _ => nofun⟩
instance : In Tryz.prog 127 (.agg (List.toArray [(.int .i64 0), .nilIface])) 2 24 := ⟨by show (_ : Option _) = _; kernel_rfl⟩
instance : Ag Tryz.prog 127 := ⟨_, Tryz.underlying127, rfl⟩
instance : Fo Tryz.prog 127 0 0 := ⟨by kernel_rfl⟩
instance : Fdv Tryz.prog 127 0 0 := ⟨_, _, _, Tryz.underlying127, rfl, Tryz.underlying3, rfl, rfl⟩
instance : Fo Tryz.prog 127 1 1 := ⟨by kernel_rfl⟩
instance : Fdv Tryz.prog 127 1 1 := ⟨_, _, _, Tryz.underlying127, rfl, Tryz.underlying89, rfl, rfl⟩
instance : Plc Tryz.prog 127 (List.toArray [(0, 1), (1, 1)]) := ⟨_, Tryz.underlying127, fun w => by kernel_rfl⟩
instance : Con Tryz.prog 127 := ⟨_, Tryz.underlying127, fun _ => nofun⟩
instance : In Tryz.prog 128 (.agg (List.toArray [(.int .i64 0)])) 1 8 := ⟨by show (_ : Option _) = _; kernel_rfl⟩
instance : Ag Tryz.prog 128 := ⟨_, Tryz.underlying128, rfl⟩
instance : Fo Tryz.prog 128 0 0 := ⟨by kernel_rfl⟩
instance : Fdv Tryz.prog 128 0 0 := ⟨_, _, _, Tryz.underlying128, rfl, Tryz.underlying25, rfl, rfl⟩
instance : Plc Tryz.prog 128 (List.toArray [(0, 1)]) := ⟨_, Tryz.underlying128, fun w => by kernel_rfl⟩
instance : Con Tryz.prog 128 := ⟨_, Tryz.underlying128, fun _ => nofun⟩
instance : In Tryz.prog 129 (.agg (List.toArray [(.int .i64 0)])) 1 8 := ⟨by show (_ : Option _) = _; kernel_rfl⟩
instance : Ag Tryz.prog 129 := ⟨_, Tryz.underlying129, rfl⟩
instance : Fo Tryz.prog 129 0 0 := ⟨by kernel_rfl⟩
instance : Fdv Tryz.prog 129 0 0 := ⟨_, _, _, Tryz.underlying129, rfl, Tryz.underlying25, rfl, rfl⟩
instance : Plc Tryz.prog 129 (List.toArray [(0, 1)]) := ⟨_, Tryz.underlying129, fun w => by kernel_rfl⟩
instance : Con Tryz.prog 129 := ⟨_, Tryz.underlying129, fun _ => nofun⟩
instance : In Tryz.prog 130 .nilFunc 1 8 := ⟨by show (_ : Option _) = _; kernel_rfl⟩
instance : Fl Tryz.prog 130 := ⟨_, Tryz.underlying130, rfl⟩
instance : In Tryz.prog 131 (.pointer none) 1 8 := ⟨by show (_ : Option _) = _; kernel_rfl⟩
instance : Fl Tryz.prog 131 := ⟨_, Tryz.underlying131, rfl⟩
instance : Ptr Tryz.prog 131 := ⟨by kernel_rfl⟩
instance : Con Tryz.prog 131 := ⟨_, Tryz.underlying131, fun _ => nofun⟩
instance : In Tryz.prog 132 .nilFunc 1 8 := ⟨by show (_ : Option _) = _; kernel_rfl⟩
instance : Fl Tryz.prog 132 := ⟨_, Tryz.underlying132, rfl⟩
instance : In Tryz.prog 133 .nilFunc 1 8 := ⟨by show (_ : Option _) = _; kernel_rfl⟩
instance : Fl Tryz.prog 133 := ⟨_, Tryz.underlying133, rfl⟩
instance : In Tryz.prog 134 .nilFunc 1 8 := ⟨by show (_ : Option _) = _; kernel_rfl⟩
instance : Fl Tryz.prog 134 := ⟨_, Tryz.underlying134, rfl⟩
instance : In Tryz.prog 135 .nilFunc 1 8 := ⟨by show (_ : Option _) = _; kernel_rfl⟩
instance : Fl Tryz.prog 135 := ⟨_, Tryz.underlying135, rfl⟩
instance : In Tryz.prog 136 (.agg (List.toArray [(.int .i64 0), (.int .i64 0)])) 2 16 := ⟨by show (_ : Option _) = _; kernel_rfl⟩
instance : Ag Tryz.prog 136 := ⟨_, Tryz.underlying136, rfl⟩
instance : Fo Tryz.prog 136 0 0 := ⟨by kernel_rfl⟩
instance : Fdv Tryz.prog 136 0 0 := ⟨_, _, _, Tryz.underlying136, rfl, Tryz.underlying3, rfl, rfl⟩
instance : Fo Tryz.prog 136 1 1 := ⟨by kernel_rfl⟩
instance : Fdv Tryz.prog 136 1 1 := ⟨_, _, _, Tryz.underlying136, rfl, Tryz.underlying3, rfl, rfl⟩
instance : Plc Tryz.prog 136 (List.toArray [(0, 1), (1, 1)]) := ⟨_, Tryz.underlying136, fun w => by kernel_rfl⟩
instance : Con Tryz.prog 136 := ⟨_, Tryz.underlying136, fun _ => nofun⟩
instance : In Tryz.prog 137 (.agg (List.toArray [(.int .i64 0), (.int .i64 0)])) 2 16 := ⟨by show (_ : Option _) = _; kernel_rfl⟩
instance : Ag Tryz.prog 137 := ⟨_, Tryz.underlying137, rfl⟩
instance : Fo Tryz.prog 137 0 0 := ⟨by kernel_rfl⟩
instance : Fdv Tryz.prog 137 0 0 := ⟨_, _, _, Tryz.underlying137, rfl, Tryz.underlying3, rfl, rfl⟩
instance : Fo Tryz.prog 137 1 1 := ⟨by kernel_rfl⟩
instance : Fdv Tryz.prog 137 1 1 := ⟨_, _, _, Tryz.underlying137, rfl, Tryz.underlying3, rfl, rfl⟩
instance : Plc Tryz.prog 137 (List.toArray [(0, 1), (1, 1)]) := ⟨_, Tryz.underlying137, fun w => by kernel_rfl⟩
instance : Con Tryz.prog 137 := ⟨_, Tryz.underlying137, fun _ => nofun⟩
instance : In Tryz.prog 138 (.pointer none) 1 8 := ⟨by show (_ : Option _) = _; kernel_rfl⟩
instance : Fl Tryz.prog 138 := ⟨_, Tryz.underlying138, rfl⟩
instance : Ptr Tryz.prog 138 := ⟨by kernel_rfl⟩
instance : Con Tryz.prog 138 := ⟨_, Tryz.underlying138, fun _ => nofun⟩
instance : In Tryz.prog 139 (.agg (List.toArray [(.int .i64 0), (.int .i64 0), (.int .i64 0), (.pointer none), (.bool false), (.int .i64 0)])) 6 48 := ⟨by show (_ : Option _) = _; kernel_rfl⟩
instance : Ag Tryz.prog 139 := ⟨_, Tryz.underlying139, rfl⟩
instance : Fo Tryz.prog 139 0 0 := ⟨by kernel_rfl⟩
instance : Fo Tryz.prog 139 1 2 := ⟨by kernel_rfl⟩
instance : Fdv Tryz.prog 139 1 2 := ⟨_, _, _, Tryz.underlying139, rfl, Tryz.underlying3, rfl, rfl⟩
instance : Fo Tryz.prog 139 2 3 := ⟨by kernel_rfl⟩
instance : Fdv Tryz.prog 139 2 3 := ⟨_, _, _, Tryz.underlying139, rfl, Tryz.underlying138, rfl, rfl⟩
instance : Fo Tryz.prog 139 3 4 := ⟨by kernel_rfl⟩
instance : Fdv Tryz.prog 139 3 4 := ⟨_, _, _, Tryz.underlying139, rfl, Tryz.underlying4, rfl, rfl⟩
instance : Fo Tryz.prog 139 4 5 := ⟨by kernel_rfl⟩
instance : Fdv Tryz.prog 139 4 5 := ⟨_, _, _, Tryz.underlying139, rfl, Tryz.underlying25, rfl, rfl⟩
instance : Plc Tryz.prog 139 (List.toArray [(0, 2), (2, 1), (3, 1), (4, 1), (5, 1)]) := ⟨_, Tryz.underlying139, fun w => by kernel_rfl⟩
instance : Con Tryz.prog 139 := ⟨_, Tryz.underlying139, fun _ => nofun⟩
instance : In Tryz.prog 140 (.agg (List.toArray [(.int .i64 0), (.int .i64 0), (.int .i64 0), (.pointer none), (.bool false), (.int .i64 0)])) 6 48 := ⟨by show (_ : Option _) = _; kernel_rfl⟩
instance : Ag Tryz.prog 140 := ⟨_, Tryz.underlying140, rfl⟩
instance : Fo Tryz.prog 140 0 0 := ⟨by kernel_rfl⟩
instance : Fo Tryz.prog 140 1 2 := ⟨by kernel_rfl⟩
instance : Fdv Tryz.prog 140 1 2 := ⟨_, _, _, Tryz.underlying140, rfl, Tryz.underlying3, rfl, rfl⟩
instance : Fo Tryz.prog 140 2 3 := ⟨by kernel_rfl⟩
instance : Fdv Tryz.prog 140 2 3 := ⟨_, _, _, Tryz.underlying140, rfl, Tryz.underlying138, rfl, rfl⟩
instance : Fo Tryz.prog 140 3 4 := ⟨by kernel_rfl⟩
instance : Fdv Tryz.prog 140 3 4 := ⟨_, _, _, Tryz.underlying140, rfl, Tryz.underlying4, rfl, rfl⟩
instance : Fo Tryz.prog 140 4 5 := ⟨by kernel_rfl⟩
instance : Fdv Tryz.prog 140 4 5 := ⟨_, _, _, Tryz.underlying140, rfl, Tryz.underlying25, rfl, rfl⟩
instance : Plc Tryz.prog 140 (List.toArray [(0, 2), (2, 1), (3, 1), (4, 1), (5, 1)]) := ⟨_, Tryz.underlying140, fun w => by kernel_rfl⟩
instance : Con Tryz.prog 140 := ⟨_, Tryz.underlying140, fun _ => nofun⟩
instance : In Tryz.prog 142 .nilFunc 1 8 := ⟨by show (_ : Option _) = _; kernel_rfl⟩
instance : Fl Tryz.prog 142 := ⟨_, Tryz.underlying142, rfl⟩
instance : In Tryz.prog 144 .nilFunc 1 8 := ⟨by show (_ : Option _) = _; kernel_rfl⟩
instance : Fl Tryz.prog 144 := ⟨_, Tryz.underlying144, rfl⟩
instance : In Tryz.prog 145 .nilFunc 1 8 := ⟨by show (_ : Option _) = _; kernel_rfl⟩
instance : Fl Tryz.prog 145 := ⟨_, Tryz.underlying145, rfl⟩
instance : In Tryz.prog 146 (.pointer none) 1 8 := ⟨by show (_ : Option _) = _; kernel_rfl⟩
instance : In Tryz.prog 147 .nilFunc 1 8 := ⟨by show (_ : Option _) = _; kernel_rfl⟩
instance : Fl Tryz.prog 147 := ⟨_, Tryz.underlying147, rfl⟩
instance : In Tryz.prog 148 .nilFunc 1 8 := ⟨by show (_ : Option _) = _; kernel_rfl⟩
instance : Fl Tryz.prog 148 := ⟨_, Tryz.underlying148, rfl⟩
instance : In Tryz.prog 150 .nilFunc 1 8 := ⟨by show (_ : Option _) = _; kernel_rfl⟩
instance : Fl Tryz.prog 150 := ⟨_, Tryz.underlying150, rfl⟩
instance : In Tryz.prog 151 .nilFunc 1 8 := ⟨by show (_ : Option _) = _; kernel_rfl⟩
instance : Fl Tryz.prog 151 := ⟨_, Tryz.underlying151, rfl⟩
instance : In Tryz.prog 152 (.int .u64 0) 1 8 := ⟨by show (_ : Option _) = _; kernel_rfl⟩
instance : Fl Tryz.prog 152 := ⟨_, Tryz.underlying152, rfl⟩
instance : Itg Tryz.prog 152 .u64 := ⟨Tryz.underlying152⟩
instance : Con Tryz.prog 152 := ⟨_, Tryz.underlying152, fun _ => nofun⟩
instance : In Tryz.prog 153 (.agg (List.toArray [(.pointer none), (.pointer none), (.int .u64 0)])) 3 24 := ⟨by show (_ : Option _) = _; kernel_rfl⟩
instance : Ag Tryz.prog 153 := ⟨_, Tryz.underlying153, rfl⟩
instance : Fo Tryz.prog 153 0 0 := ⟨by kernel_rfl⟩
instance : Fdv Tryz.prog 153 0 0 := ⟨_, _, _, Tryz.underlying153, rfl, Tryz.underlying17, rfl, rfl⟩
instance : Fo Tryz.prog 153 1 1 := ⟨by kernel_rfl⟩
instance : Fdv Tryz.prog 153 1 1 := ⟨_, _, _, Tryz.underlying153, rfl, Tryz.underlying146, rfl, rfl⟩
instance : Fo Tryz.prog 153 2 2 := ⟨by kernel_rfl⟩
instance : Fdv Tryz.prog 153 2 2 := ⟨_, _, _, Tryz.underlying153, rfl, Tryz.underlying152, rfl, rfl⟩
instance : Plc Tryz.prog 153 (List.toArray [(0, 1), (1, 1), (2, 1)]) := ⟨_, Tryz.underlying153, fun w => by kernel_rfl⟩
instance : Con Tryz.prog 153 := ⟨_, Tryz.underlying153, fun _ => nofun⟩
instance : In Tryz.prog 154 (.agg (List.toArray [(.pointer none), (.pointer none), (.int .u64 0)])) 3 24 := ⟨by show (_ : Option _) = _; kernel_rfl⟩
instance : Ag Tryz.prog 154 := ⟨_, Tryz.underlying154, rfl⟩
instance : Fo Tryz.prog 154 0 0 := ⟨by kernel_rfl⟩
instance : Fdv Tryz.prog 154 0 0 := ⟨_, _, _, Tryz.underlying154, rfl, Tryz.underlying17, rfl, rfl⟩
instance : Fo Tryz.prog 154 1 1 := ⟨by kernel_rfl⟩
instance : Fdv Tryz.prog 154 1 1 := ⟨_, _, _, Tryz.underlying154, rfl, Tryz.underlying146, rfl, rfl⟩
instance : Fo Tryz.prog 154 2 2 := ⟨by kernel_rfl⟩
instance : Fdv Tryz.prog 154 2 2 := ⟨_, _, _, Tryz.underlying154, rfl, Tryz.underlying152, rfl, rfl⟩
instance : Plc Tryz.prog 154 (List.toArray [(0, 1), (1, 1), (2, 1)]) := ⟨_, Tryz.underlying154, fun w => by kernel_rfl⟩
instance : Con Tryz.prog 154 := ⟨_, Tryz.underlying154, fun _ => nofun⟩
instance : In Tryz.prog 155 .nilFunc 1 8 := ⟨by show (_ : Option _) = _; kernel_rfl⟩
instance : Fl Tryz.prog 155 := ⟨_, Tryz.underlying155, rfl⟩
instance : In Tryz.prog 156 .nilIface 1 16 := ⟨by show (_ : Option _) = _; kernel_rfl⟩
instance : Fl Tryz.prog 156 := ⟨_, Tryz.underlying156, rfl⟩
instance : Ifc Tryz.prog 156 := ⟨by kernel_rfl⟩
instance : In Tryz.prog 157 .nilIface 1 16 := ⟨by show (_ : Option _) = _; kernel_rfl⟩
instance : Fl Tryz.prog 157 := ⟨_, Tryz.underlying157, rfl⟩
instance : Ifc Tryz.prog 157 := ⟨by kernel_rfl⟩
instance : In Tryz.prog 158 .nilFunc 1 8 := ⟨by show (_ : Option _) = _; kernel_rfl⟩
instance : Fl Tryz.prog 158 := ⟨_, Tryz.underlying158, rfl⟩
instance : In Tryz.prog 159 (.int .u8 0) 1 1 := ⟨by show (_ : Option _) = _; kernel_rfl⟩
instance : Fl Tryz.prog 159 := ⟨_, Tryz.underlying159, rfl⟩
instance : Itg Tryz.prog 159 .u8 := ⟨Tryz.underlying159⟩
instance : Con Tryz.prog 159 := ⟨_, Tryz.underlying159, fun _ => nofun⟩
instance : In Tryz.prog 160 .nilFunc 1 8 := ⟨by show (_ : Option _) = _; kernel_rfl⟩
instance : Fl Tryz.prog 160 := ⟨_, Tryz.underlying160, rfl⟩
instance : In Tryz.prog 161 .nilFunc 1 8 := ⟨by show (_ : Option _) = _; kernel_rfl⟩
instance : Fl Tryz.prog 161 := ⟨_, Tryz.underlying161, rfl⟩
instance : In Tryz.prog 162 .nilFunc 1 8 := ⟨by show (_ : Option _) = _; kernel_rfl⟩
instance : Fl Tryz.prog 162 := ⟨_, Tryz.underlying162, rfl⟩
instance : In Tryz.prog 163 .nilFunc 1 8 := ⟨by show (_ : Option _) = _; kernel_rfl⟩
instance : Fl Tryz.prog 163 := ⟨_, Tryz.underlying163, rfl⟩
instance : In Tryz.prog 165 .nilFunc 1 8 := ⟨by show (_ : Option _) = _; kernel_rfl⟩
instance : Fl Tryz.prog 165 := ⟨_, Tryz.underlying165, rfl⟩
instance : In Tryz.prog 166 .nilFunc 1 8 := ⟨by show (_ : Option _) = _; kernel_rfl⟩
instance : Fl Tryz.prog 166 := ⟨_, Tryz.underlying166, rfl⟩
instance : In Tryz.prog 168 .nilFunc 1 8 := ⟨by show (_ : Option _) = _; kernel_rfl⟩
instance : Fl Tryz.prog 168 := ⟨_, Tryz.underlying168, rfl⟩
instance : In Tryz.prog 170 .nilFunc 1 8 := ⟨by show (_ : Option _) = _; kernel_rfl⟩
instance : Fl Tryz.prog 170 := ⟨_, Tryz.underlying170, rfl⟩
instance : In Tryz.prog 171 .nilFunc 1 8 := ⟨by show (_ : Option _) = _; kernel_rfl⟩
instance : Fl Tryz.prog 171 := ⟨_, Tryz.underlying171, rfl⟩
instance : In Tryz.prog 172 .nilFunc 1 8 := ⟨by show (_ : Option _) = _; kernel_rfl⟩
instance : Fl Tryz.prog 172 := ⟨_, Tryz.underlying172, rfl⟩
instance : In Tryz.prog 173 .nilFunc 1 8 := ⟨by show (_ : Option _) = _; kernel_rfl⟩
instance : Fl Tryz.prog 173 := ⟨_, Tryz.underlying173, rfl⟩
instance : In Tryz.prog 175 .nilFunc 1 8 := ⟨by show (_ : Option _) = _; kernel_rfl⟩
instance : Fl Tryz.prog 175 := ⟨_, Tryz.underlying175, rfl⟩
instance : In Tryz.prog 177 .nilFunc 1 8 := ⟨by show (_ : Option _) = _; kernel_rfl⟩
instance : Fl Tryz.prog 177 := ⟨_, Tryz.underlying177, rfl⟩
instance : In Tryz.prog 179 .nilFunc 1 8 := ⟨by show (_ : Option _) = _; kernel_rfl⟩
instance : Fl Tryz.prog 179 := ⟨_, Tryz.underlying179, rfl⟩
instance : In Tryz.prog 180 .nilFunc 1 8 := ⟨by show (_ : Option _) = _; kernel_rfl⟩
instance : Fl Tryz.prog 180 := ⟨_, Tryz.underlying180, rfl⟩
instance : In Tryz.prog 181 .nilFunc 1 8 := ⟨by show (_ : Option _) = _; kernel_rfl⟩
instance : Fl Tryz.prog 181 := ⟨_, Tryz.underlying181, rfl⟩
instance : In Tryz.prog 182 (.agg (List.toArray [(.int .u8 0), (.int .u8 0), (.int .u8 0), (.int .u8 0), (.int .u8 0), (.int .u8 0), (.int .u8 0), (.int .u8 0), (.int .u8 0), (.int .u8 0), (.int .u8 0), (.int .u8 0), (.int .u8 0), (.int .u8 0), (.int .u8 0), (.int .u8 0), (.int .u8 0), (.int .u8 0), (.int .u8 0), (.int .u8 0), (.int .u8 0), (.int .u8 0), (.int .u8 0), (.int .u8 0)])) 24 24 := ⟨by show (_ : Option _) = _; kernel_rfl⟩
instance : Ag Tryz.prog 182 := ⟨_, Tryz.underlying182, rfl⟩
instance : In Tryz.prog 183 (.int .u64 0) 1 8 := ⟨by show (_ : Option _) = _; kernel_rfl⟩
instance : Fl Tryz.prog 183 := ⟨_, Tryz.underlying183, rfl⟩
instance : Itg Tryz.prog 183 .u64 := ⟨Tryz.underlying183⟩
instance : Con Tryz.prog 183 := ⟨_, Tryz.underlying183, fun _ => nofun⟩
instance : In Tryz.prog 184 .nilFunc 1 8 := ⟨by show (_ : Option _) = _; kernel_rfl⟩
instance : Fl Tryz.prog 184 := ⟨_, Tryz.underlying184, rfl⟩
instance : In Tryz.prog 185 .nilFunc 1 8 := ⟨by show (_ : Option _) = _; kernel_rfl⟩
instance : Fl Tryz.prog 185 := ⟨_, Tryz.underlying185, rfl⟩
instance : In Tryz.prog 187 .nilFunc 1 8 := ⟨by show (_ : Option _) = _; kernel_rfl⟩
instance : Fl Tryz.prog 187 := ⟨_, Tryz.underlying187, rfl⟩
instance : In Tryz.prog 188 .nilFunc 1 8 := ⟨by show (_ : Option _) = _; kernel_rfl⟩
instance : Fl Tryz.prog 188 := ⟨_, Tryz.underlying188, rfl⟩
instance : In Tryz.prog 189 .nilFunc 1 8 := ⟨by show (_ : Option _) = _; kernel_rfl⟩
instance : Fl Tryz.prog 189 := ⟨_, Tryz.underlying189, rfl⟩
instance : In Tryz.prog 190 .nilFunc 1 8 := ⟨by show (_ : Option _) = _; kernel_rfl⟩
instance : Fl Tryz.prog 190 := ⟨_, Tryz.underlying190, rfl⟩
instance : In Tryz.prog 191 (.agg (List.toArray [(.pointer none)])) 1 8 := ⟨by show (_ : Option _) = _; kernel_rfl⟩
instance : Ag Tryz.prog 191 := ⟨_, Tryz.underlying191, rfl⟩
instance : Fo Tryz.prog 191 0 0 := ⟨by kernel_rfl⟩
instance : Fdv Tryz.prog 191 0 0 := ⟨_, _, _, Tryz.underlying191, rfl, Tryz.underlying17, rfl, rfl⟩
instance : Plc Tryz.prog 191 (List.toArray [(0, 1)]) := ⟨_, Tryz.underlying191, fun w => by kernel_rfl⟩
instance : Con Tryz.prog 191 := ⟨_, Tryz.underlying191, fun _ => nofun⟩
instance : In Tryz.prog 192 (.agg (List.toArray [(.pointer none)])) 1 8 := ⟨by show (_ : Option _) = _; kernel_rfl⟩
instance : Ag Tryz.prog 192 := ⟨_, Tryz.underlying192, rfl⟩
instance : Fo Tryz.prog 192 0 0 := ⟨by kernel_rfl⟩
instance : Fdv Tryz.prog 192 0 0 := ⟨_, _, _, Tryz.underlying192, rfl, Tryz.underlying17, rfl, rfl⟩
instance : Plc Tryz.prog 192 (List.toArray [(0, 1)]) := ⟨_, Tryz.underlying192, fun w => by kernel_rfl⟩
instance : Con Tryz.prog 192 := ⟨_, Tryz.underlying192, fun _ => nofun⟩
instance : In Tryz.prog 193 (.pointer none) 1 8 := ⟨by show (_ : Option _) = _; kernel_rfl⟩
instance : Fl Tryz.prog 193 := ⟨_, Tryz.underlying193, rfl⟩
instance : Ptr Tryz.prog 193 := ⟨by kernel_rfl⟩
instance : Con Tryz.prog 193 := ⟨_, Tryz.underlying193, fun _ => nofun⟩
instance : In Tryz.prog 194 .nilFunc 1 8 := ⟨by show (_ : Option _) = _; kernel_rfl⟩
instance : Fl Tryz.prog 194 := ⟨_, Tryz.underlying194, rfl⟩
instance : In Tryz.prog 195 .nilFunc 1 8 := ⟨by show (_ : Option _) = _; kernel_rfl⟩
instance : Fl Tryz.prog 195 := ⟨_, Tryz.underlying195, rfl⟩
instance : In Tryz.prog 196 .nilFunc 1 8 := ⟨by show (_ : Option _) = _; kernel_rfl⟩
instance : Fl Tryz.prog 196 := ⟨_, Tryz.underlying196, rfl⟩
instance : In Tryz.prog 197 .nilIface 1 16 := ⟨by show (_ : Option _) = _; kernel_rfl⟩
instance : Fl Tryz.prog 197 := ⟨_, Tryz.underlying197, rfl⟩
instance : Ifc Tryz.prog 197 := ⟨by kernel_rfl⟩
instance : In Tryz.prog 199 .nilFunc 1 8 := ⟨by show (_ : Option _) = _; kernel_rfl⟩
instance : Fl Tryz.prog 199 := ⟨_, Tryz.underlying199, rfl⟩
instance : In Tryz.prog 200 .nilIface 1 16 := ⟨by show (_ : Option _) = _; kernel_rfl⟩
instance : Fl Tryz.prog 200 := ⟨_, Tryz.underlying200, rfl⟩
instance : Ifc Tryz.prog 200 := ⟨by kernel_rfl⟩
instance : In Tryz.prog 201 .nilFunc 1 8 := ⟨by show (_ : Option _) = _; kernel_rfl⟩
instance : Fl Tryz.prog 201 := ⟨_, Tryz.underlying201, rfl⟩
instance : In Tryz.prog 202 .nilIface 1 16 := ⟨by show (_ : Option _) = _; kernel_rfl⟩
instance : Fl Tryz.prog 202 := ⟨_, Tryz.underlying202, rfl⟩
instance : Ifc Tryz.prog 202 := ⟨by kernel_rfl⟩
instance : In Tryz.prog 203 (.slice none 0 0) 1 24 := ⟨by show (_ : Option _) = _; kernel_rfl⟩
instance : Fl Tryz.prog 203 := ⟨_, Tryz.underlying203, rfl⟩
instance : Sli Tryz.prog 203 89 := ⟨Tryz.underlying203⟩
instance : In Tryz.prog 204 .nilFunc 1 8 := ⟨by show (_ : Option _) = _; kernel_rfl⟩
instance : Fl Tryz.prog 204 := ⟨_, Tryz.underlying204, rfl⟩
instance : In Tryz.prog 205 .nilFunc 1 8 := ⟨by show (_ : Option _) = _; kernel_rfl⟩
instance : Fl Tryz.prog 205 := ⟨_, Tryz.underlying205, rfl⟩
instance : In Tryz.prog 206 .nilFunc 1 8 := ⟨by show (_ : Option _) = _; kernel_rfl⟩
instance : Fl Tryz.prog 206 := ⟨_, Tryz.underlying206, rfl⟩
instance : In Tryz.prog 208 .nilFunc 1 8 := ⟨by show (_ : Option _) = _; kernel_rfl⟩
instance : Fl Tryz.prog 208 := ⟨_, Tryz.underlying208, rfl⟩
instance : In Tryz.prog 209 .nilFunc 1 8 := ⟨by show (_ : Option _) = _; kernel_rfl⟩
instance : Fl Tryz.prog 209 := ⟨_, Tryz.underlying209, rfl⟩
instance : In Tryz.prog 211 .nilFunc 1 8 := ⟨by show (_ : Option _) = _; kernel_rfl⟩
instance : Fl Tryz.prog 211 := ⟨_, Tryz.underlying211, rfl⟩
instance : In Tryz.prog 213 .nilFunc 1 8 := ⟨by show (_ : Option _) = _; kernel_rfl⟩
instance : Fl Tryz.prog 213 := ⟨_, Tryz.underlying213, rfl⟩
instance : In Tryz.prog 214 .nilFunc 1 8 := ⟨by show (_ : Option _) = _; kernel_rfl⟩
instance : Fl Tryz.prog 214 := ⟨_, Tryz.underlying214, rfl⟩
instance : In Tryz.prog 215 .nilFunc 1 8 := ⟨by show (_ : Option _) = _; kernel_rfl⟩
instance : Fl Tryz.prog 215 := ⟨_, Tryz.underlying215, rfl⟩
instance : In Tryz.prog 216 (.agg (List.toArray [(.int .u64 0), (.int .u64 0), (.int .u64 0), (.int .u64 0), (.int .u64 0), (.int .u64 0), (.int .u64 0), (.int .u64 0), (.int .u64 0), (.int .u64 0), (.int .u64 0), (.int .u64 0), (.int .u64 0), (.int .u64 0), (.int .u64 0), (.int .u64 0), (.int .u64 0), (.int .u64 0), (.int .u64 0), (.int .u64 0)])) 20 160 := ⟨by show (_ : Option _) = _; kernel_rfl⟩
instance : Ag Tryz.prog 216 := ⟨_, Tryz.underlying216, rfl⟩
instance : In Tryz.prog 217 (.int .u32 0) 1 4 := ⟨by show (_ : Option _) = _; kernel_rfl⟩
instance : Fl Tryz.prog 217 := ⟨_, Tryz.underlying217, rfl⟩
instance : Itg Tryz.prog 217 .u32 := ⟨Tryz.underlying217⟩
instance : Con Tryz.prog 217 := ⟨_, Tryz.underlying217, fun _ => nofun⟩
instance : In Tryz.prog 218 (.agg (List.toArray [(.int .u8 0), (.int .u8 0), (.int .u8 0), (.int .u8 0), (.int .u8 0), (.int .u8 0), (.int .u8 0), (.int .u8 0), (.int .u8 0), (.int .u8 0), (.int .u8 0), (.int .u8 0), (.int .u8 0), (.int .u8 0), (.int .u8 0), (.int .u8 0), (.int .u8 0), (.int .u8 0), (.int .u8 0), (.int .u8 0), (.int .u8 0), (.int .u8 0), (.int .u8 0), (.int .u8 0), (.int .u8 0), (.int .u8 0), (.int .u8 0), (.int .u8 0), (.int .u8 0), (.int .u8 0), (.int .u8 0), (.int .u8 0), (.int .u8 0), (.int .u8 0), (.int .u8 0), (.int .u8 0), (.int .u8 0), (.int .u8 0), (.int .u8 0), (.int .u8 0), (.int .u8 0), (.int .u8 0), (.int .u8 0), (.int .u8 0), (.int .u8 0), (.int .u8 0), (.int .u8 0), (.int .u8 0), (.int .u8 0), (.int .u8 0), (.int .u8 0), (.int .u8 0), (.int .u8 0), (.int .u8 0), (.int .u8 0), (.int .u8 0), (.int .u8 0), (.int .u8 0), (.int .u8 0), (.int .u8 0), (.int .u8 0), (.int .u8 0), (.int .u8 0), (.int .u8 0), (.int .u8 0)])) 65 65 := ⟨by show (_ : Option _) = _; kernel_rfl⟩
instance : Ag Tryz.prog 218 := ⟨_, Tryz.underlying218, rfl⟩
instance : In Tryz.prog 219 (.int .u64 0) 1 8 := ⟨by show (_ : Option _) = _; kernel_rfl⟩
instance : Fl Tryz.prog 219 := ⟨_, Tryz.underlying219, rfl⟩
instance : Itg Tryz.prog 219 .u64 := ⟨Tryz.underlying219⟩
instance : Con Tryz.prog 219 := ⟨_, Tryz.underlying219, fun _ => nofun⟩
instance : In Tryz.prog 220 .nilFunc 1 8 := ⟨by show (_ : Option _) = _; kernel_rfl⟩
instance : Fl Tryz.prog 220 := ⟨_, Tryz.underlying220, rfl⟩
instance : In Tryz.prog 221 .nilFunc 1 8 := ⟨by show (_ : Option _) = _; kernel_rfl⟩
instance : Fl Tryz.prog 221 := ⟨_, Tryz.underlying221, rfl⟩
instance : In Tryz.prog 222 .nilFunc 1 8 := ⟨by show (_ : Option _) = _; kernel_rfl⟩
instance : Fl Tryz.prog 222 := ⟨_, Tryz.underlying222, rfl⟩
instance : In Tryz.prog 223 .nilFunc 1 8 := ⟨by show (_ : Option _) = _; kernel_rfl⟩
instance : Fl Tryz.prog 223 := ⟨_, Tryz.underlying223, rfl⟩
instance : In Tryz.prog 225 .nilFunc 1 8 := ⟨by show (_ : Option _) = _; kernel_rfl⟩
instance : Fl Tryz.prog 225 := ⟨_, Tryz.underlying225, rfl⟩
instance : In Tryz.prog 226 .nilFunc 1 8 := ⟨by show (_ : Option _) = _; kernel_rfl⟩
instance : Fl Tryz.prog 226 := ⟨_, Tryz.underlying226, rfl⟩
instance : In Tryz.prog 227 .nilFunc 1 8 := ⟨by show (_ : Option _) = _; kernel_rfl⟩
instance : Fl Tryz.prog 227 := ⟨_, Tryz.underlying227, rfl⟩
instance : In Tryz.prog 228 .nilFunc 1 8 := ⟨by show (_ : Option _) = _; kernel_rfl⟩
instance : Fl Tryz.prog 228 := ⟨_, Tryz.underlying228, rfl⟩
instance : In Tryz.prog 229 .nilFunc 1 8 := ⟨by show (_ : Option _) = _; kernel_rfl⟩
instance : Fl Tryz.prog 229 := ⟨_, Tryz.underlying229, rfl⟩
instance : In Tryz.prog 230 (.agg (List.toArray [(.int .i64 0), (.int .i64 0), (.slice none 0 0), .nilFunc, (.slice none 0 0), (.slice none 0 0), (.bool false), (.int .i64 0)])) 8 112 := ⟨by show (_ : Option _) = _; kernel_rfl⟩
instance : Ag Tryz.prog 230 := ⟨_, Tryz.underlying230, rfl⟩
instance : Fo Tryz.prog 230 0 0 := ⟨by kernel_rfl⟩
instance : Fdv Tryz.prog 230 0 0 := ⟨_, _, _, Tryz.underlying230, rfl, Tryz.underlying3, rfl, rfl⟩
instance : Fo Tryz.prog 230 1 1 := ⟨by kernel_rfl⟩
instance : Fdv Tryz.prog 230 1 1 := ⟨_, _, _, Tryz.underlying230, rfl, Tryz.underlying3, rfl, rfl⟩
instance : Fo Tryz.prog 230 2 2 := ⟨by kernel_rfl⟩
instance : Fdv Tryz.prog 230 2 2 := ⟨_, _, _, Tryz.underlying230, rfl, Tryz.underlying33, rfl, rfl⟩
instance : Fo Tryz.prog 230 3 3 := ⟨by kernel_rfl⟩
instance : Fdv Tryz.prog 230 3 3 := ⟨_, _, _, Tryz.underlying230, rfl, Tryz.underlying229, rfl, rfl⟩
instance : Fo Tryz.prog 230 4 4 := ⟨by kernel_rfl⟩
instance : Fdv Tryz.prog 230 4 4 := ⟨_, _, _, Tryz.underlying230, rfl, Tryz.underlying33, rfl, rfl⟩
instance : Fo Tryz.prog 230 5 5 := ⟨by kernel_rfl⟩
instance : Fdv Tryz.prog 230 5 5 := ⟨_, _, _, Tryz.underlying230, rfl, Tryz.underlying22, rfl, rfl⟩
instance : Fo Tryz.prog 230 6 6 := ⟨by kernel_rfl⟩
instance : Fdv Tryz.prog 230 6 6 := ⟨_, _, _, Tryz.underlying230, rfl, Tryz.underlying4, rfl, rfl⟩
instance : Fo Tryz.prog 230 7 7 := ⟨by kernel_rfl⟩
instance : Fdv Tryz.prog 230 7 7 := ⟨_, _, _, Tryz.underlying230, rfl, Tryz.underlying25, rfl, rfl⟩
instance : Plc Tryz.prog 230 (List.toArray [(0, 1), (1, 1), (2, 1), (3, 1), (4, 1), (5, 1), (6, 1), (7, 1)]) := ⟨_, Tryz.underlying230, fun w => by kernel_rfl⟩
instance : Con Tryz.prog 230 := ⟨_, Tryz.underlying230, fun _ => nofun⟩
instance : In Tryz.prog 231 (.agg (List.toArray [(.int .i64 0), (.int .i64 0), (.slice none 0 0), .nilFunc, (.slice none 0 0), (.slice none 0 0), (.bool false), (.int .i64 0)])) 8 112 := ⟨by show (_ : Option _) = _; kernel_rfl⟩
instance : Ag Tryz.prog 231 := ⟨_, Tryz.underlying231, rfl⟩
instance : Fo Tryz.prog 231 0 0 := ⟨by kernel_rfl⟩
instance : Fdv Tryz.prog 231 0 0 := ⟨_, _, _, Tryz.underlying231, rfl, Tryz.underlying3, rfl, rfl⟩
instance : Fo Tryz.prog 231 1 1 := ⟨by kernel_rfl⟩
instance : Fdv Tryz.prog 231 1 1 := ⟨_, _, _, Tryz.underlying231, rfl, Tryz.underlying3, rfl, rfl⟩
instance : Fo Tryz.prog 231 2 2 := ⟨by kernel_rfl⟩
instance : Fdv Tryz.prog 231 2 2 := ⟨_, _, _, Tryz.underlying231, rfl, Tryz.underlying33, rfl, rfl⟩
instance : Fo Tryz.prog 231 3 3 := ⟨by kernel_rfl⟩
instance : Fdv Tryz.prog 231 3 3 := ⟨_, _, _, Tryz.underlying231, rfl, Tryz.underlying229, rfl, rfl⟩
instance : Fo Tryz.prog 231 4 4 := ⟨by kernel_rfl⟩
instance : Fdv Tryz.prog 231 4 4 := ⟨_, _, _, Tryz.underlying231, rfl, Tryz.underlying33, rfl, rfl⟩
instance : Fo Tryz.prog 231 5 5 := ⟨by kernel_rfl⟩
instance : Fdv Tryz.prog 231 5 5 := ⟨_, _, _, Tryz.underlying231, rfl, Tryz.underlying22, rfl, rfl⟩
instance : Fo Tryz.prog 231 6 6 := ⟨by kernel_rfl⟩
instance : Fdv Tryz.prog 231 6 6 := ⟨_, _, _, Tryz.underlying231, rfl, Tryz.underlying4, rfl, rfl⟩
instance : Fo Tryz.prog 231 7 7 := ⟨by kernel_rfl⟩
instance : Fdv Tryz.prog 231 7 7 := ⟨_, _, _, Tryz.underlying231, rfl, Tryz.underlying25, rfl, rfl⟩
instance : Plc Tryz.prog 231 (List.toArray [(0, 1), (1, 1), (2, 1), (3, 1), (4, 1), (5, 1), (6, 1), (7, 1)]) := ⟨_, Tryz.underlying231, fun w => by kernel_rfl⟩
instance : Con Tryz.prog 231 := ⟨_, Tryz.underlying231, fun _ => nofun⟩
instance : In Tryz.prog 232 .nilFunc 1 8 := ⟨by show (_ : Option _) = _; kernel_rfl⟩
instance : Fl Tryz.prog 232 := ⟨_, Tryz.underlying232, rfl⟩
instance : In Tryz.prog 234 .nilFunc 1 8 := ⟨by show (_ : Option _) = _; kernel_rfl⟩
instance : Fl Tryz.prog 234 := ⟨_, Tryz.underlying234, rfl⟩
instance : In Tryz.prog 235 .nilFunc 1 8 := ⟨by show (_ : Option _) = _; kernel_rfl⟩
instance : Fl Tryz.prog 235 := ⟨_, Tryz.underlying235, rfl⟩
instance : In Tryz.prog 236 (.agg (List.toArray [(.bool false), (.bool false), (.bool false), (.bool false), (.bool false), (.bool false), (.bool false), (.bool false), (.bool false), (.bool false), (.bool false), (.bool false), (.bool false), (.bool false), (.bool false), (.bool false), (.bool false), (.bool false), (.bool false), (.bool false), (.bool false), (.bool false), (.bool false), (.bool false), (.bool false), (.bool false), (.bool false), (.bool false), (.bool false), (.bool false), (.bool false), (.bool false), (.bool false), (.bool false), (.bool false), (.bool false), (.bool false), (.bool false), (.bool false), (.bool false), (.bool false), (.bool false), (.bool false), (.bool false), (.bool false), (.bool false), (.bool false), (.bool false), (.bool false), (.bool false), (.bool false), (.bool false), (.bool false), (.bool false), (.bool false), (.bool false), (.bool false), (.bool false), (.bool false), (.bool false), (.bool false), (.bool false), (.bool false), (.bool false), (.bool false), (.bool false), (.bool false), (.bool false), (.bool false), (.bool false), (.bool false), (.bool false), (.bool false), (.bool false), (.bool false), (.bool false), (.bool false), (.bool false), (.bool false), (.bool false), (.bool false), (.bool false), (.bool false), (.bool false), (.bool false), (.bool false), (.bool false), (.bool false), (.bool false), (.bool false), (.bool false), (.bool false), (.bool false), (.bool false), (.bool false), (.bool false), (.bool false), (.bool false), (.bool false), (.bool false), (.bool false), (.bool false), (.bool false), (.bool false), (.bool false), (.bool false), (.bool false), (.bool false), (.bool false), (.bool false), (.bool false), (.bool false), (.bool false), (.bool false), (.bool false), (.bool false), (.bool false), (.bool false), (.bool false), (.bool false), (.bool false), (.bool false), (.bool false), (.bool false), (.bool false), (.bool false), (.bool false), (.bool false), (.bool false), (.bool false), (.bool false), (.bool false), (.bool false), (.bool false), (.bool false), (.bool false), (.bool false), (.bool false), (.bool false), (.bool false), (.bool false), (.bool false), (.bool false), (.bool false), (.bool false), (.bool false), (.bool false), (.bool false), (.bool false), (.bool false), (.bool false), (.bool false), (.bool false), (.bool false), (.bool false), (.bool false), (.bool false), (.bool false), (.bool false), (.bool false), (.bool false), (.bool false), (.bool false), (.bool false), (.bool false), (.bool false), (.bool false), (.bool false), (.bool false), (.bool false), (.bool false), (.bool false), (.bool false), (.bool false), (.bool false), (.bool false), (.bool false), (.bool false), (.bool false), (.bool false), (.bool false), (.bool false), (.bool false), (.bool false), (.bool false), (.bool false), (.bool false), (.bool false), (.bool false), (.bool false), (.bool false), (.bool false), (.bool false), (.bool false), (.bool false), (.bool false), (.bool false), (.bool false), (.bool false), (.bool false), (.bool false), (.bool false), (.bool false), (.bool false), (.bool false), (.bool false), (.bool false), (.bool false), (.bool false), (.bool false), (.bool false), (.bool false), (.bool false), (.bool false), (.bool false), (.bool false), (.bool false), (.bool false), (.bool false), (.bool false), (.bool false), (.bool false), (.bool false), (.bool false), (.bool false), (.bool false), (.bool false), (.bool false), (.bool false), (.bool false), (.bool false), (.bool false), (.bool false), (.bool false), (.bool false), (.bool false), (.bool false), (.bool false), (.bool false), (.bool false), (.bool false), (.bool false), (.bool false), (.bool false), (.bool false), (.bool false), (.bool false), (.bool false), (.bool false), (.bool false), (.bool false), (.bool false), (.bool false), (.bool false), (.bool false), (.bool false)])) 256 256 := ⟨by show (_ : Option _) = _; kernel_rfl⟩
instance : Ag Tryz.prog 236 := ⟨_, Tryz.underlying236, rfl⟩
instance : In Tryz.prog 237 (.agg (List.toArray [(.bool false), (.bool false), (.bool false), (.bool false), (.bool false), (.bool false), (.bool false), (.bool false), (.bool false), (.bool false), (.bool false), (.bool false), (.bool false), (.bool false), (.bool false), (.bool false), (.bool false), (.bool false), (.bool false), (.bool false), (.bool false), (.bool false), (.bool false), (.bool false), (.bool false), (.bool false), (.bool false), (.bool false), (.bool false), (.bool false), (.bool false), (.bool false), (.bool false), (.bool false), (.bool false), (.bool false), (.bool false), (.bool false), (.bool false), (.bool false), (.bool false), (.bool false), (.bool false), (.bool false), (.bool false), (.bool false), (.bool false), (.bool false), (.bool false), (.bool false), (.bool false), (.bool false), (.bool false), (.bool false), (.bool false), (.bool false), (.bool false), (.bool false), (.bool false), (.bool false), (.bool false), (.bool false), (.bool false), (.bool false), (.bool false), (.bool false), (.bool false), (.bool false), (.bool false), (.bool false), (.bool false), (.bool false), (.bool false), (.bool false), (.bool false), (.bool false), (.bool false), (.bool false), (.bool false), (.bool false), (.bool false), (.bool false), (.bool false), (.bool false), (.bool false), (.bool false), (.bool false), (.bool false), (.bool false), (.bool false), (.bool false), (.bool false), (.bool false), (.bool false), (.bool false), (.bool false), (.bool false), (.bool false), (.bool false), (.bool false), (.bool false), (.bool false), (.bool false), (.bool false), (.bool false), (.bool false), (.bool false), (.bool false), (.bool false), (.bool false), (.bool false), (.bool false), (.bool false), (.bool false), (.bool false), (.bool false), (.bool false), (.bool false), (.bool false), (.bool false), (.bool false), (.bool false), (.bool false), (.bool false), (.bool false), (.bool false), (.bool false), (.bool false), (.bool false), (.bool false), (.bool false), (.bool false), (.bool false), (.bool false), (.bool false), (.bool false), (.bool false), (.bool false), (.bool false), (.bool false), (.bool false), (.bool false), (.bool false), (.bool false), (.bool false), (.bool false), (.bool false), (.bool false), (.bool false), (.bool false), (.bool false), (.bool false), (.bool false), (.bool false), (.bool false), (.bool false), (.bool false), (.bool false), (.bool false), (.bool false), (.bool false), (.bool false), (.bool false), (.bool false), (.bool false), (.bool false), (.bool false), (.bool false), (.bool false), (.bool false), (.bool false), (.bool false), (.bool false), (.bool false), (.bool false), (.bool false), (.bool false), (.bool false), (.bool false), (.bool false), (.bool false), (.bool false), (.bool false), (.bool false), (.bool false), (.bool false), (.bool false), (.bool false), (.bool false), (.bool false), (.bool false), (.bool false), (.bool false), (.bool false), (.bool false), (.bool false), (.bool false), (.bool false), (.bool false), (.bool false), (.bool false), (.bool false), (.bool false), (.bool false), (.bool false), (.bool false), (.bool false), (.bool false), (.bool false), (.bool false), (.bool false), (.bool false), (.bool false), (.bool false), (.bool false), (.bool false), (.bool false), (.bool false), (.bool false), (.bool false), (.bool false), (.bool false), (.bool false), (.bool false), (.bool false), (.bool false), (.bool false), (.bool false), (.bool false), (.bool false), (.bool false), (.bool false), (.bool false), (.bool false), (.bool false), (.bool false), (.bool false), (.bool false), (.bool false), (.bool false), (.bool false), (.bool false), (.bool false), (.bool false), (.bool false), (.bool false), (.bool false), (.bool false), (.bool false), (.bool false), (.bool false), (.bool false), (.bool false), (.bool false), (.bool false), (.bool false)])) 256 256 := ⟨by show (_ : Option _) = _; kernel_rfl⟩
instance : Ag Tryz.prog 237 := ⟨_, Tryz.underlying237, rfl⟩
instance : In Tryz.prog 239 .nilFunc 1 8 := ⟨by show (_ : Option _) = _; kernel_rfl⟩
instance : Fl Tryz.prog 239 := ⟨_, Tryz.underlying239, rfl⟩
instance : In Tryz.prog 240 .nilFunc 1 8 := ⟨by show (_ : Option _) = _; kernel_rfl⟩
instance : Fl Tryz.prog 240 := ⟨_, Tryz.underlying240, rfl⟩
instance : In Tryz.prog 241 (.pointer none) 1 8 := ⟨by show (_ : Option _) = _; kernel_rfl⟩
instance : Fl Tryz.prog 241 := ⟨_, Tryz.underlying241, rfl⟩
instance : Ptr Tryz.prog 241 := ⟨by kernel_rfl⟩
instance : Con Tryz.prog 241 := ⟨_, Tryz.underlying241, fun _ => nofun⟩
instance : In Tryz.prog 242 .nilFunc 1 8 := ⟨by show (_ : Option _) = _; kernel_rfl⟩
instance : Fl Tryz.prog 242 := ⟨_, Tryz.underlying242, rfl⟩
instance : In Tryz.prog 243 .nilFunc 1 8 := ⟨by show (_ : Option _) = _; kernel_rfl⟩
instance : Fl Tryz.prog 243 := ⟨_, Tryz.underlying243, rfl⟩
instance : In Tryz.prog 244 .nilFunc 1 8 := ⟨by show (_ : Option _) = _; kernel_rfl⟩
instance : Fl Tryz.prog 244 := ⟨_, Tryz.underlying244, rfl⟩
instance : In Tryz.prog 246 .nilFunc 1 8 := ⟨by show (_ : Option _) = _; kernel_rfl⟩
instance : Fl Tryz.prog 246 := ⟨_, Tryz.underlying246, rfl⟩
instance : In Tryz.prog 247 (.pointer none) 1 8 := ⟨by show (_ : Option _) = _; kernel_rfl⟩
instance : Fl Tryz.prog 247 := ⟨_, Tryz.underlying247, rfl⟩
instance : Ptr Tryz.prog 247 := ⟨by kernel_rfl⟩
instance : Con Tryz.prog 247 := ⟨_, Tryz.underlying247, fun _ => nofun⟩
instance : In Tryz.prog 248 (.agg (List.toArray [(.int .u8 0), (.int .u8 0), (.int .u8 0), (.int .u8 0), (.int .u8 0), (.int .u8 0), (.int .u8 0), (.int .u8 0), (.int .u8 0), (.int .u8 0), (.int .u8 0), (.int .u8 0), (.int .u8 0), (.int .u8 0), (.int .u8 0), (.int .u8 0), (.int .u8 0), (.int .u8 0), (.int .u8 0), (.int .u8 0), (.int .u8 0), (.int .u8 0), (.int .u8 0), (.int .u8 0), (.int .u8 0), (.int .u8 0), (.int .u8 0), (.int .u8 0), (.int .u8 0), (.int .u8 0), (.int .u8 0), (.int .u8 0)])) 32 32 := ⟨by show (_ : Option _) = _; kernel_rfl⟩
instance : Ag Tryz.prog 248 := ⟨_, Tryz.underlying248, rfl⟩
instance : In Tryz.prog 249 (.agg (List.toArray [(.int .u8 0), (.int .u8 0), (.int .u8 0), (.int .u8 0), (.int .u8 0), (.int .u8 0), (.int .u8 0), (.int .u8 0), (.int .u8 0), (.int .u8 0), (.int .u8 0), (.int .u8 0), (.int .u8 0), (.int .u8 0), (.int .u8 0), (.int .u8 0), (.int .u8 0), (.int .u8 0), (.int .u8 0), (.int .u8 0), (.int .u8 0), (.int .u8 0), (.int .u8 0), (.int .u8 0), (.int .u8 0), (.int .u8 0), (.int .u8 0), (.int .u8 0), (.int .u8 0), (.int .u8 0), (.int .u8 0), (.int .u8 0), (.int .u8 0), (.int .u8 0), (.int .u8 0), (.int .u8 0), (.int .u8 0), (.int .u8 0), (.int .u8 0), (.int .u8 0), (.int .u8 0), (.int .u8 0), (.int .u8 0), (.int .u8 0), (.int .u8 0), (.int .u8 0), (.int .u8 0), (.int .u8 0), (.int .u8 0), (.int .u8 0), (.int .u8 0), (.int .u8 0), (.int .u8 0), (.int .u8 0), (.int .u8 0), (.int .u8 0), (.int .u8 0), (.int .u8 0), (.int .u8 0), (.int .u8 0), (.int .u8 0), (.int .u8 0), (.int .u8 0), (.int .u8 0)])) 64 64 := ⟨by show (_ : Option _) = _; kernel_rfl⟩
instance : Ag Tryz.prog 249 := ⟨_, Tryz.underlying249, rfl⟩
instance : In Tryz.prog 250 .nilFunc 1 8 := ⟨by show (_ : Option _) = _; kernel_rfl⟩
instance : Fl Tryz.prog 250 := ⟨_, Tryz.underlying250, rfl⟩
instance : In Tryz.prog 251 (.int .i64 0) 1 8 := ⟨by show (_ : Option _) = _; kernel_rfl⟩
instance : Fl Tryz.prog 251 := ⟨_, Tryz.underlying251, rfl⟩
instance : Itg Tryz.prog 251 .i64 := ⟨Tryz.underlying251⟩
instance : Con Tryz.prog 251 := ⟨_, Tryz.underlying251, fun _ => nofun⟩
instance : In Tryz.prog 252 .nilFunc 1 8 := ⟨by show (_ : Option _) = _; kernel_rfl⟩
instance : Fl Tryz.prog 252 := ⟨_, Tryz.underlying252, rfl⟩
instance : In Tryz.prog 253 (.pointer none) 1 8 := ⟨by show (_ : Option _) = _; kernel_rfl⟩
instance : Fl Tryz.prog 253 := ⟨_, Tryz.underlying253, rfl⟩
instance : Ptr Tryz.prog 253 := ⟨by kernel_rfl⟩
instance : Con Tryz.prog 253 := ⟨_, Tryz.underlying253, fun _ => nofun⟩
instance : In Tryz.prog 254 .nilFunc 1 8 := ⟨by show (_ : Option _) = _; kernel_rfl⟩
instance : Fl Tryz.prog 254 := ⟨_, Tryz.underlying254, rfl⟩
instance : In Tryz.prog 255 .nilFunc 1 8 := ⟨by show (_ : Option _) = _; kernel_rfl⟩
instance : Fl Tryz.prog 255 := ⟨_, Tryz.underlying255, rfl⟩
instance : In Tryz.prog 256 .nilFunc 1 8 := ⟨by show (_ : Option _) = _; kernel_rfl⟩
instance : Fl Tryz.prog 256 := ⟨_, Tryz.underlying256, rfl⟩
instance : In Tryz.prog 257 .nilFunc 1 8 := ⟨by show (_ : Option _) = _; kernel_rfl⟩
instance : Fl Tryz.prog 257 := ⟨_, Tryz.underlying257, rfl⟩
instance : In Tryz.prog 258 .nilFunc 1 8 := ⟨by show (_ : Option _) = _; kernel_rfl⟩
instance : Fl Tryz.prog 258 := ⟨_, Tryz.underlying258, rfl⟩
instance : In Tryz.prog 259 (.agg (List.toArray [(.int .u8 0), (.int .u8 0), (.int .u8 0), (.int .u8 0), (.int .u8 0), (.int .u8 0), (.int .u8 0), (.int .u8 0), (.int .u8 0), (.int .u8 0), (.int .u8 0), (.int .u8 0), (.int .u8 0), (.int .u8 0), (.int .u8 0), (.int .u8 0), (.int .u8 0), (.int .u8 0), (.int .u8 0), (.int .u8 0), (.int .u8 0), (.int .u8 0), (.int .u8 0), (.int .u8 0), (.int .u8 0), (.int .u8 0), (.int .u8 0), (.int .u8 0), (.int .u8 0), (.int .u8 0), (.int .u8 0), (.int .u8 0), (.int .u8 0), (.int .u8 0), (.int .u8 0), (.int .u8 0), (.int .u8 0), (.int .u8 0), (.int .u8 0), (.int .u8 0), (.int .u8 0), (.int .u8 0), (.int .u8 0), (.int .u8 0), (.int .u8 0), (.int .u8 0), (.int .u8 0), (.int .u8 0), (.int .u8 0), (.int .u8 0), (.int .u8 0), (.int .u8 0), (.int .u8 0), (.int .u8 0), (.int .u8 0), (.int .u8 0), (.int .u8 0), (.int .u8 0), (.int .u8 0), (.int .u8 0), (.int .u8 0), (.int .u8 0), (.int .u8 0), (.int .u8 0), (.int .u8 0), (.int .u8 0), (.int .u8 0), (.int .u8 0), (.int .u8 0), (.int .u8 0), (.int .u8 0), (.int .u8 0), (.int .u8 0), (.int .u8 0), (.int .u8 0), (.int .u8 0), (.int .u8 0), (.int .u8 0), (.int .u8 0), (.int .u8 0), (.int .u8 0), (.int .u8 0), (.int .u8 0), (.int .u8 0), (.int .u8 0), (.int .u8 0), (.int .u8 0), (.int .u8 0), (.int .u8 0), (.int .u8 0), (.int .u8 0), (.int .u8 0), (.int .u8 0), (.int .u8 0), (.int .u8 0), (.int .u8 0), (.int .u8 0), (.int .u8 0), (.int .u8 0), (.int .u8 0), (.int .u8 0), (.int .u8 0), (.int .u8 0), (.int .u8 0), (.int .u8 0), (.int .u8 0), (.int .u8 0), (.int .u8 0), (.int .u8 0), (.int .u8 0), (.int .u8 0), (.int .u8 0), (.int .u8 0), (.int .u8 0), (.int .u8 0), (.int .u8 0), (.int .u8 0), (.int .u8 0), (.int .u8 0), (.int .u8 0), (.int .u8 0), (.int .u8 0), (.int .u8 0), (.int .u8 0), (.int .u8 0), (.int .u8 0), (.int .u8 0), (.int .u8 0), (.int .u8 0), (.int .u8 0), (.int .u8 0), (.int .u8 0), (.int .u8 0), (.int .u8 0), (.int .u8 0), (.int .u8 0), (.int .u8 0), (.int .u8 0), (.int .u8 0), (.int .u8 0), (.int .u8 0), (.int .u8 0), (.int .u8 0), (.int .u8 0), (.int .u8 0), (.int .u8 0), (.int .u8 0), (.int .u8 0), (.int .u8 0), (.int .u8 0), (.int .u8 0), (.int .u8 0), (.int .u8 0), (.int .u8 0), (.int .u8 0), (.int .u8 0), (.int .u8 0), (.int .u8 0), (.int .u8 0), (.int .u8 0), (.int .u8 0), (.int .u8 0), (.int .u8 0), (.int .u8 0), (.int .u8 0), (.int .u8 0), (.int .u8 0), (.int .u8 0), (.int .u8 0), (.int .u8 0), (.int .u8 0), (.int .u8 0), (.int .u8 0), (.int .u8 0), (.int .u8 0), (.int .u8 0), (.int .u8 0), (.int .u8 0), (.int .u8 0), (.int .u8 0), (.int .u8 0), (.int .u8 0), (.int .u8 0), (.int .u8 0), (.int .u8 0), (.int .u8 0), (.int .u8 0), (.int .u8 0), (.int .u8 0), (.int .u8 0), (.int .u8 0), (.int .u8 0), (.int .u8 0), (.int .u8 0), (.int .u8 0), (.int .u8 0), (.int .u8 0), (.int .u8 0), (.int .u8 0), (.int .u8 0), (.int .u8 0), (.int .u8 0), (.int .u8 0), (.int .u8 0), (.int .u8 0), (.int .u8 0), (.int .u8 0), (.int .u8 0), (.int .u8 0), (.int .u8 0), (.int .u8 0), (.int .u8 0), (.int .u8 0), (.int .u8 0), (.int .u8 0), (.int .u8 0), (.int .u8 0), (.int .u8 0), (.int .u8 0), (.int .u8 0), (.int .u8 0), (.int .u8 0), (.int .u8 0), (.int .u8 0), (.int .u8 0), (.int .u8 0), (.int .u8 0), (.int .u8 0), (.int .u8 0), (.int .u8 0), (.int .u8 0), (.int .u8 0), (.int .u8 0), (.int .u8 0), (.int .u8 0), (.int .u8 0), (.int .u8 0), (.int .u8 0), (.int .u8 0), (.int .u8 0), (.int .u8 0), (.int .u8 0), (.int .u8 0), (.int .u8 0), (.int .u8 0), (.int .u8 0), (.int .u8 0), (.int .u8 0), (.int .u8 0), (.int .u8 0), (.int .u8 0), (.int .u8 0), (.int .u8 0), (.int .u8 0), (.int .u8 0), (.int .u8 0)])) 256 256 := ⟨by show (_ : Option _) = _; kernel_rfl⟩
instance : Ag Tryz.prog 259 := ⟨_, Tryz.underlying259, rfl⟩
instance : In Tryz.prog 260 (.agg (List.toArray [(.int .u8 0), (.int .u8 0)])) 2 2 := ⟨by show (_ : Option _) = _; kernel_rfl⟩
instance : Ag Tryz.prog 260 := ⟨_, Tryz.underlying260, rfl⟩
instance : Fo Tryz.prog 260 0 0 := ⟨by kernel_rfl⟩
instance : Fdv Tryz.prog 260 0 0 := ⟨_, _, _, Tryz.underlying260, rfl, Tryz.underlying5, rfl, rfl⟩
instance : Fo Tryz.prog 260 1 1 := ⟨by kernel_rfl⟩
instance : Fdv Tryz.prog 260 1 1 := ⟨_, _, _, Tryz.underlying260, rfl, Tryz.underlying5, rfl, rfl⟩
instance : Plc Tryz.prog 260 (List.toArray [(0, 1), (1, 1)]) := ⟨_, Tryz.underlying260, fun w => by kernel_rfl⟩
instance : Con Tryz.prog 260 := ⟨_, Tryz.underlying260, fun _ => nofun⟩
instance : In Tryz.prog 261 (.agg (List.toArray [(.int .u8 0), (.int .u8 0)])) 2 2 := ⟨by show (_ : Option _) = _; kernel_rfl⟩
instance : Ag Tryz.prog 261 := ⟨_, Tryz.underlying261, rfl⟩
instance : Fo Tryz.prog 261 0 0 := ⟨by kernel_rfl⟩
instance : Fdv Tryz.prog 261 0 0 := ⟨_, _, _, Tryz.underlying261, rfl, Tryz.underlying5, rfl, rfl⟩
instance : Fo Tryz.prog 261 1 1 := ⟨by kernel_rfl⟩
instance : Fdv Tryz.prog 261 1 1 := ⟨_, _, _, Tryz.underlying261, rfl, Tryz.underlying5, rfl, rfl⟩
instance : Plc Tryz.prog 261 (List.toArray [(0, 1), (1, 1)]) := ⟨_, Tryz.underlying261, fun w => by kernel_rfl⟩
instance : Con Tryz.prog 261 := ⟨_, Tryz.underlying261, fun _ => nofun⟩
instance : In Tryz.prog 262 (.agg (List.toArray [(.int .u8 0), (.int .u8 0), (.int .u8 0), (.int .u8 0), (.int .u8 0), (.int .u8 0), (.int .u8 0), (.int .u8 0), (.int .u8 0), (.int .u8 0), (.int .u8 0), (.int .u8 0), (.int .u8 0), (.int .u8 0), (.int .u8 0), (.int .u8 0), (.int .u8 0), (.int .u8 0), (.int .u8 0), (.int .u8 0), (.int .u8 0), (.int .u8 0), (.int .u8 0), (.int .u8 0), (.int .u8 0), (.int .u8 0), (.int .u8 0), (.int .u8 0), (.int .u8 0), (.int .u8 0), (.int .u8 0), (.int .u8 0)])) 32 32 := ⟨by show (_ : Option _) = _; kernel_rfl⟩
instance : Ag Tryz.prog 262 := ⟨_, Tryz.underlying262, rfl⟩
instance : In Tryz.prog 264 .nilFunc 1 8 := ⟨by show (_ : Option _) = _; kernel_rfl⟩
instance : Fl Tryz.prog 264 := ⟨_, Tryz.underlying264, rfl⟩
instance : In Tryz.prog 265 .nilFunc 1 8 := ⟨by show (_ : Option _) = _; kernel_rfl⟩
instance : Fl Tryz.prog 265 := ⟨_, Tryz.underlying265, rfl⟩
instance : In Tryz.prog 266 (.agg (List.toArray [(.string ⟨([] : List UInt8).toArray⟩), (.string ⟨([] : List UInt8).toArray⟩), .nilIface])) 3 48 := ⟨by show (_ : Option _) = _; kernel_rfl⟩
instance : Ag Tryz.prog 266 := ⟨_, Tryz.underlying266, rfl⟩
instance : Fo Tryz.prog 266 0 0 := ⟨by kernel_rfl⟩
instance : Fdv Tryz.prog 266 0 0 := ⟨_, _, _, Tryz.underlying266, rfl, Tryz.underlying9, rfl, rfl⟩
instance : Fo Tryz.prog 266 1 1 := ⟨by kernel_rfl⟩
instance : Fdv Tryz.prog 266 1 1 := ⟨_, _, _, Tryz.underlying266, rfl, Tryz.underlying9, rfl, rfl⟩
instance : Fo Tryz.prog 266 2 2 := ⟨by kernel_rfl⟩
instance : Fdv Tryz.prog 266 2 2 := ⟨_, _, _, Tryz.underlying266, rfl, Tryz.underlying89, rfl, rfl⟩
instance : Plc Tryz.prog 266 (List.toArray [(0, 1), (1, 1), (2, 1)]) := ⟨_, Tryz.underlying266, fun w => by kernel_rfl⟩
instance : Con Tryz.prog 266 := ⟨_, Tryz.underlying266, fun _ => nofun⟩
instance : In Tryz.prog 267 (.agg (List.toArray [(.string ⟨([] : List UInt8).toArray⟩), (.string ⟨([] : List UInt8).toArray⟩), .nilIface])) 3 48 := ⟨by show (_ : Option _) = _; kernel_rfl⟩
instance : Ag Tryz.prog 267 := ⟨_, Tryz.underlying267, rfl⟩
instance : Fo Tryz.prog 267 0 0 := ⟨by kernel_rfl⟩
instance : Fdv Tryz.prog 267 0 0 := ⟨_, _, _, Tryz.underlying267, rfl, Tryz.underlying9, rfl, rfl⟩
instance : Fo Tryz.prog 267 1 1 := ⟨by kernel_rfl⟩
instance : Fdv Tryz.prog 267 1 1 := ⟨_, _, _, Tryz.underlying267, rfl, Tryz.underlying9, rfl, rfl⟩
instance : Fo Tryz.prog 267 2 2 := ⟨by kernel_rfl⟩
instance : Fdv Tryz.prog 267 2 2 := ⟨_, _, _, Tryz.underlying267, rfl, Tryz.underlying89, rfl, rfl⟩
instance : Plc Tryz.prog 267 (List.toArray [(0, 1), (1, 1), (2, 1)]) := ⟨_, Tryz.underlying267, fun w => by kernel_rfl⟩
instance : Con Tryz.prog 267 := ⟨_, Tryz.underlying267, fun _ => nofun⟩
instance : In Tryz.prog 268 .nilFunc 1 8 := ⟨by show (_ : Option _) = _; kernel_rfl⟩
instance : Fl Tryz.prog 268 := ⟨_, Tryz.underlying268, rfl⟩
instance : In Tryz.prog 269 .nilFunc 1 8 := ⟨by show (_ : Option _) = _; kernel_rfl⟩
instance : Fl Tryz.prog 269 := ⟨_, Tryz.underlying269, rfl⟩
instance : In Tryz.prog 270 (.pointer none) 1 8 := ⟨by show (_ : Option _) = _; kernel_rfl⟩
instance : Fl Tryz.prog 270 := ⟨_, Tryz.underlying270, rfl⟩
instance : Ptr Tryz.prog 270 := ⟨by kernel_rfl⟩
instance : Con Tryz.prog 270 := ⟨_, Tryz.underlying270, fun _ => nofun⟩
instance : In Tryz.prog 271 (.agg (List.toArray [(.string ⟨([] : List UInt8).toArray⟩)])) 1 16 := ⟨by show (_ : Option _) = _; kernel_rfl⟩
instance : Ag Tryz.prog 271 := ⟨_, Tryz.underlying271, rfl⟩
instance : Fo Tryz.prog 271 0 0 := ⟨by kernel_rfl⟩
instance : Fdv Tryz.prog 271 0 0 := ⟨_, _, _, Tryz.underlying271, rfl, Tryz.underlying9, rfl, rfl⟩
instance : Plc Tryz.prog 271 (List.toArray [(0, 1)]) := ⟨_, Tryz.underlying271, fun w => by kernel_rfl⟩
instance : Con Tryz.prog 271 := ⟨_, Tryz.underlying271, fun _ => nofun⟩
instance : In Tryz.prog 272 (.agg (List.toArray [(.string ⟨([] : List UInt8).toArray⟩)])) 1 16 := ⟨by show (_ : Option _) = _; kernel_rfl⟩
instance : Ag Tryz.prog 272 := ⟨_, Tryz.underlying272, rfl⟩
instance : Fo Tryz.prog 272 0 0 := ⟨by kernel_rfl⟩
instance : Fdv Tryz.prog 272 0 0 := ⟨_, _, _, Tryz.underlying272, rfl, Tryz.underlying9, rfl, rfl⟩
instance : Plc Tryz.prog 272 (List.toArray [(0, 1)]) := ⟨_, Tryz.underlying272, fun w => by kernel_rfl⟩
instance : Con Tryz.prog 272 := ⟨_, Tryz.underlying272, fun _ => nofun⟩
instance : In Tryz.prog 273 (.agg (List.toArray [(.pointer none), (.pointer none), (.pointer none), (.string ⟨([] : List UInt8).toArray⟩)])) 4 40 := ⟨by show (_ : Option _) = _; kernel_rfl⟩
instance : Ag Tryz.prog 273 := ⟨_, Tryz.underlying273, rfl⟩
instance : Fo Tryz.prog 273 0 0 := ⟨by kernel_rfl⟩
instance : Fdv Tryz.prog 273 0 0 := ⟨_, _, _, Tryz.underlying273, rfl, Tryz.underlying17, rfl, rfl⟩
instance : Fo Tryz.prog 273 1 1 := ⟨by kernel_rfl⟩
instance : Fdv Tryz.prog 273 1 1 := ⟨_, _, _, Tryz.underlying273, rfl, Tryz.underlying17, rfl, rfl⟩
instance : Fo Tryz.prog 273 2 2 := ⟨by kernel_rfl⟩
instance : Fdv Tryz.prog 273 2 2 := ⟨_, _, _, Tryz.underlying273, rfl, Tryz.underlying17, rfl, rfl⟩
instance : Fo Tryz.prog 273 3 3 := ⟨by kernel_rfl⟩
instance : Fdv Tryz.prog 273 3 3 := ⟨_, _, _, Tryz.underlying273, rfl, Tryz.underlying9, rfl, rfl⟩
instance : Plc Tryz.prog 273 (List.toArray [(0, 1), (1, 1), (2, 1), (3, 1)]) := ⟨_, Tryz.underlying273, fun w => by kernel_rfl⟩
instance : Con Tryz.prog 273 := ⟨_, Tryz.underlying273, fun _ => nofun⟩
instance : In Tryz.prog 274 (.agg (List.toArray [(.pointer none), (.pointer none), (.pointer none), (.string ⟨([] : List UInt8).toArray⟩)])) 4 40 := ⟨by show (_ : Option _) = _; kernel_rfl⟩
instance : Ag Tryz.prog 274 := ⟨_, Tryz.underlying274, rfl⟩
instance : Fo Tryz.prog 274 0 0 := ⟨by kernel_rfl⟩
instance : Fdv Tryz.prog 274 0 0 := ⟨_, _, _, Tryz.underlying274, rfl, Tryz.underlying17, rfl, rfl⟩
instance : Fo Tryz.prog 274 1 1 := ⟨by kernel_rfl⟩
instance : Fdv Tryz.prog 274 1 1 := ⟨_, _, _, Tryz.underlying274, rfl, Tryz.underlying17, rfl, rfl⟩
instance : Fo Tryz.prog 274 2 2 := ⟨by kernel_rfl⟩
instance : Fdv Tryz.prog 274 2 2 := ⟨_, _, _, Tryz.underlying274, rfl, Tryz.underlying17, rfl, rfl⟩
instance : Fo Tryz.prog 274 3 3 := ⟨by kernel_rfl⟩
instance : Fdv Tryz.prog 274 3 3 := ⟨_, _, _, Tryz.underlying274, rfl, Tryz.underlying9, rfl, rfl⟩
instance : Plc Tryz.prog 274 (List.toArray [(0, 1), (1, 1), (2, 1), (3, 1)]) := ⟨_, Tryz.underlying274, fun w => by kernel_rfl⟩
instance : Con Tryz.prog 274 := ⟨_, Tryz.underlying274, fun _ => nofun⟩
instance : In Tryz.prog 275 (.agg (List.toArray [])) 0 0 := ⟨by show (_ : Option _) = _; kernel_rfl⟩
instance : Ag Tryz.prog 275 := ⟨_, Tryz.underlying275, rfl⟩
instance : In Tryz.prog 276 (.agg (List.toArray [])) 0 0 := ⟨by show (_ : Option _) = _; kernel_rfl⟩
instance : Ag Tryz.prog 276 := ⟨_, Tryz.underlying276, rfl⟩
instance : Con Tryz.prog 276 := ⟨_, Tryz.underlying276, fun _ => nofun⟩
instance : In Tryz.prog 277 (.agg (List.toArray [])) 0 0 := ⟨by show (_ : Option _) = _; kernel_rfl⟩
instance : Ag Tryz.prog 277 := ⟨_, Tryz.underlying277, rfl⟩
instance : Con Tryz.prog 277 := ⟨_, Tryz.underlying277, fun _ => nofun⟩
instance : In Tryz.prog 278 .nilFunc 1 8 := ⟨by show (_ : Option _) = _; kernel_rfl⟩
instance : Fl Tryz.prog 278 := ⟨_, Tryz.underlying278, rfl⟩
instance : In Tryz.prog 279 (.int .u8 0) 1 1 := ⟨by show (_ : Option _) = _; kernel_rfl⟩
instance : Fl Tryz.prog 279 := ⟨_, Tryz.underlying279, rfl⟩
instance : Itg Tryz.prog 279 .u8 := ⟨Tryz.underlying279⟩
instance : Con Tryz.prog 279 := ⟨_, Tryz.underlying279, fun _ => nofun⟩
instance : In Tryz.prog 280 .nilFunc 1 8 := ⟨by show (_ : Option _) = _; kernel_rfl⟩
instance : Fl Tryz.prog 280 := ⟨_, Tryz.underlying280, rfl⟩
instance : In Tryz.prog 281 (.int .i32 0) 1 4 := ⟨by show (_ : Option _) = _; kernel_rfl⟩
instance : Fl Tryz.prog 281 := ⟨_, Tryz.underlying281, rfl⟩
instance : Itg Tryz.prog 281 .i32 := ⟨Tryz.underlying281⟩
instance : Con Tryz.prog 281 := ⟨_, Tryz.underlying281, fun _ => nofun⟩
instance : In Tryz.prog 282 (.int .i32 0) 1 4 := ⟨by show (_ : Option _) = _; kernel_rfl⟩
instance : Fl Tryz.prog 282 := ⟨_, Tryz.underlying282, rfl⟩
instance : Itg Tryz.prog 282 .i32 := ⟨Tryz.underlying282⟩
instance : Con Tryz.prog 282 := ⟨_, Tryz.underlying282, fun _ => nofun⟩
instance : In Tryz.prog 283 (.agg (List.toArray [(.int .u64 0), (.int .u64 0), (.int .u32 0), (.int .u8 0), (.int .u8 0), (.int .u8 0), (.int .u8 0), .nilFunc, (.pointer none), (.int .i32 0), (.int .i32 0)])) 11 48 := ⟨by show (_ : Option _) = _; kernel_rfl⟩
instance : Ag Tryz.prog 283 := ⟨_, Tryz.underlying283, rfl⟩
instance : Fo Tryz.prog 283 0 0 := ⟨by kernel_rfl⟩
instance : Fdv Tryz.prog 283 0 0 := ⟨_, _, _, Tryz.underlying283, rfl, Tryz.underlying12, rfl, rfl⟩
instance : Fo Tryz.prog 283 1 1 := ⟨by kernel_rfl⟩
instance : Fdv Tryz.prog 283 1 1 := ⟨_, _, _, Tryz.underlying283, rfl, Tryz.underlying12, rfl, rfl⟩
instance : Fo Tryz.prog 283 2 2 := ⟨by kernel_rfl⟩
instance : Fdv Tryz.prog 283 2 2 := ⟨_, _, _, Tryz.underlying283, rfl, Tryz.underlying217, rfl, rfl⟩
instance : Fo Tryz.prog 283 3 3 := ⟨by kernel_rfl⟩
instance : Fdv Tryz.prog 283 3 3 := ⟨_, _, _, Tryz.underlying283, rfl, Tryz.underlying279, rfl, rfl⟩
instance : Fo Tryz.prog 283 4 4 := ⟨by kernel_rfl⟩
instance : Fdv Tryz.prog 283 4 4 := ⟨_, _, _, Tryz.underlying283, rfl, Tryz.underlying5, rfl, rfl⟩
instance : Fo Tryz.prog 283 5 5 := ⟨by kernel_rfl⟩
instance : Fdv Tryz.prog 283 5 5 := ⟨_, _, _, Tryz.underlying283, rfl, Tryz.underlying5, rfl, rfl⟩
instance : Fo Tryz.prog 283 6 6 := ⟨by kernel_rfl⟩
instance : Fdv Tryz.prog 283 6 6 := ⟨_, _, _, Tryz.underlying283, rfl, Tryz.underlying159, rfl, rfl⟩
instance : Fo Tryz.prog 283 7 7 := ⟨by kernel_rfl⟩
instance : Fdv Tryz.prog 283 7 7 := ⟨_, _, _, Tryz.underlying283, rfl, Tryz.underlying280, rfl, rfl⟩
instance : Fo Tryz.prog 283 8 8 := ⟨by kernel_rfl⟩
instance : Fdv Tryz.prog 283 8 8 := ⟨_, _, _, Tryz.underlying283, rfl, Tryz.underlying124, rfl, rfl⟩
instance : Fo Tryz.prog 283 9 9 := ⟨by kernel_rfl⟩
instance : Fdv Tryz.prog 283 9 9 := ⟨_, _, _, Tryz.underlying283, rfl, Tryz.underlying281, rfl, rfl⟩
instance : Fo Tryz.prog 283 10 10 := ⟨by kernel_rfl⟩
instance : Fdv Tryz.prog 283 10 10 := ⟨_, _, _, Tryz.underlying283, rfl, Tryz.underlying282, rfl, rfl⟩
instance : Plc Tryz.prog 283 (List.toArray [(0, 1), (1, 1), (2, 1), (3, 1), (4, 1), (5, 1), (6, 1), (7, 1), (8, 1), (9, 1), (10, 1)]) := ⟨_, Tryz.underlying283, fun w => by kernel_rfl⟩
instance : Con Tryz.prog 283 := ⟨_, Tryz.underlying283, fun _ => nofun⟩
instance : In Tryz.prog 284 (.agg (List.toArray [(.int .u64 0), (.int .u64 0), (.int .u32 0), (.int .u8 0), (.int .u8 0), (.int .u8 0), (.int .u8 0), .nilFunc, (.pointer none), (.int .i32 0), (.int .i32 0)])) 11 48 := ⟨by show (_ : Option _) = _; kernel_rfl⟩
instance : Ag Tryz.prog 284 := ⟨_, Tryz.underlying284, rfl⟩
instance : Fo Tryz.prog 284 0 0 := ⟨by kernel_rfl⟩
instance : Fdv Tryz.prog 284 0 0 := ⟨_, _, _, Tryz.underlying284, rfl, Tryz.underlying12, rfl, rfl⟩
instance : Fo Tryz.prog 284 1 1 := ⟨by kernel_rfl⟩
instance : Fdv Tryz.prog 284 1 1 := ⟨_, _, _, Tryz.underlying284, rfl, Tryz.underlying12, rfl, rfl⟩
instance : Fo Tryz.prog 284 2 2 := ⟨by kernel_rfl⟩
instance : Fdv Tryz.prog 284 2 2 := ⟨_, _, _, Tryz.underlying284, rfl, Tryz.underlying217, rfl, rfl⟩
instance : Fo Tryz.prog 284 3 3 := ⟨by kernel_rfl⟩
instance : Fdv Tryz.prog 284 3 3 := ⟨_, _, _, Tryz.underlying284, rfl, Tryz.underlying279, rfl, rfl⟩
instance : Fo Tryz.prog 284 4 4 := ⟨by kernel_rfl⟩
instance : Fdv Tryz.prog 284 4 4 := ⟨_, _, _, Tryz.underlying284, rfl, Tryz.underlying5, rfl, rfl⟩
instance : Fo Tryz.prog 284 5 5 := ⟨by kernel_rfl⟩
instance : Fdv Tryz.prog 284 5 5 := ⟨_, _, _, Tryz.underlying284, rfl, Tryz.underlying5, rfl, rfl⟩
instance : Fo Tryz.prog 284 6 6 := ⟨by kernel_rfl⟩
instance : Fdv Tryz.prog 284 6 6 := ⟨_, _, _, Tryz.underlying284, rfl, Tryz.underlying159, rfl, rfl⟩
instance : Fo Tryz.prog 284 7 7 := ⟨by kernel_rfl⟩
instance : Fdv Tryz.prog 284 7 7 := ⟨_, _, _, Tryz.underlying284, rfl, Tryz.underlying280, rfl, rfl⟩
instance : Fo Tryz.prog 284 8 8 := ⟨by kernel_rfl⟩
instance : Fdv Tryz.prog 284 8 8 := ⟨_, _, _, Tryz.underlying284, rfl, Tryz.underlying124, rfl, rfl⟩
instance : Fo Tryz.prog 284 9 9 := ⟨by kernel_rfl⟩
instance : Fdv Tryz.prog 284 9 9 := ⟨_, _, _, Tryz.underlying284, rfl, Tryz.underlying281, rfl, rfl⟩
instance : Fo Tryz.prog 284 10 10 := ⟨by kernel_rfl⟩
instance : Fdv Tryz.prog 284 10 10 := ⟨_, _, _, Tryz.underlying284, rfl, Tryz.underlying282, rfl, rfl⟩
instance : Plc Tryz.prog 284 (List.toArray [(0, 1), (1, 1), (2, 1), (3, 1), (4, 1), (5, 1), (6, 1), (7, 1), (8, 1), (9, 1), (10, 1)]) := ⟨_, Tryz.underlying284, fun w => by kernel_rfl⟩
instance : Con Tryz.prog 284 := ⟨_, Tryz.underlying284, fun _ => nofun⟩
instance : In Tryz.prog 285 .nilFunc 1 8 := ⟨by show (_ : Option _) = _; kernel_rfl⟩
instance : Fl Tryz.prog 285 := ⟨_, Tryz.underlying285, rfl⟩
instance : In Tryz.prog 286 .nilFunc 1 8 := ⟨by show (_ : Option _) = _; kernel_rfl⟩
instance : Fl Tryz.prog 286 := ⟨_, Tryz.underlying286, rfl⟩
instance : In Tryz.prog 287 .nilFunc 1 8 := ⟨by show (_ : Option _) = _; kernel_rfl⟩
instance : Fl Tryz.prog 287 := ⟨_, Tryz.underlying287, rfl⟩
instance : In Tryz.prog 288 (.agg (List.toArray [(.string ⟨([] : List UInt8).toArray⟩), (.int .u8 0)])) 2 24 := ⟨by show (_ : Option _) = _; kernel_rfl⟩
instance : Ag Tryz.prog 288 := ⟨_, Tryz.underlying288, rfl⟩
instance : Fo Tryz.prog 288 0 0 := ⟨by kernel_rfl⟩
instance : Fdv Tryz.prog 288 0 0 := ⟨_, _, _, Tryz.underlying288, rfl, Tryz.underlying9, rfl, rfl⟩
instance : Fo Tryz.prog 288 1 1 := ⟨by kernel_rfl⟩
instance : Fdv Tryz.prog 288 1 1 := ⟨_, _, _, Tryz.underlying288, rfl, Tryz.underlying159, rfl, rfl⟩
instance : Plc Tryz.prog 288 (List.toArray [(0, 1), (1, 1)]) := ⟨_, Tryz.underlying288, fun w => by kernel_rfl⟩
instance : Con Tryz.prog 288 := ⟨_, Tryz.underlying288, fun _ => nofun⟩
instance : In Tryz.prog 289 (.agg (List.toArray [(.string ⟨([] : List UInt8).toArray⟩), (.int .u8 0)])) 2 24 := ⟨by show (_ : Option _) = _; kernel_rfl⟩
instance : Ag Tryz.prog 289 := ⟨_, Tryz.underlying289, rfl⟩
instance : Fo Tryz.prog 289 0 0 := ⟨by kernel_rfl⟩
instance : Fdv Tryz.prog 289 0 0 := ⟨_, _, _, Tryz.underlying289, rfl, Tryz.underlying9, rfl, rfl⟩
instance : Fo Tryz.prog 289 1 1 := ⟨by kernel_rfl⟩
instance : Fdv Tryz.prog 289 1 1 := ⟨_, _, _, Tryz.underlying289, rfl, Tryz.underlying159, rfl, rfl⟩
instance : Plc Tryz.prog 289 (List.toArray [(0, 1), (1, 1)]) := ⟨_, Tryz.underlying289, fun w => by kernel_rfl⟩
instance : Con Tryz.prog 289 := ⟨_, Tryz.underlying289, fun _ => nofun⟩
instance : In Tryz.prog 290 (.pointer none) 1 8 := ⟨by show (_ : Option _) = _; kernel_rfl⟩
instance : Fl Tryz.prog 290 := ⟨_, Tryz.underlying290, rfl⟩
instance : Ptr Tryz.prog 290 := ⟨by kernel_rfl⟩
instance : Con Tryz.prog 290 := ⟨_, Tryz.underlying290, fun _ => nofun⟩
instance : In Tryz.prog 291 .nilFunc 1 8 := ⟨by show (_ : Option _) = _; kernel_rfl⟩
instance : Fl Tryz.prog 291 := ⟨_, Tryz.underlying291, rfl⟩
instance : In Tryz.prog 292 (.int .u16 0) 1 2 := ⟨by show (_ : Option _) = _; kernel_rfl⟩
instance : Fl Tryz.prog 292 := ⟨_, Tryz.underlying292, rfl⟩
instance : Itg Tryz.prog 292 .u16 := ⟨Tryz.underlying292⟩
instance : Con Tryz.prog 292 := ⟨_, Tryz.underlying292, fun _ => nofun⟩
instance : In Tryz.prog 293 (.agg (List.toArray [(.int .i32 0), (.int .u16 0), (.int .u16 0), (.int .u32 0), (.int .u32 0)])) 5 16 := ⟨by show (_ : Option _) = _; kernel_rfl⟩
instance : Ag Tryz.prog 293 := ⟨_, Tryz.underlying293, rfl⟩
instance : Fo Tryz.prog 293 0 0 := ⟨by kernel_rfl⟩
instance : Fdv Tryz.prog 293 0 0 := ⟨_, _, _, Tryz.underlying293, rfl, Tryz.underlying281, rfl, rfl⟩
instance : Fo Tryz.prog 293 1 1 := ⟨by kernel_rfl⟩
instance : Fdv Tryz.prog 293 1 1 := ⟨_, _, _, Tryz.underlying293, rfl, Tryz.underlying292, rfl, rfl⟩
instance : Fo Tryz.prog 293 2 2 := ⟨by kernel_rfl⟩
instance : Fdv Tryz.prog 293 2 2 := ⟨_, _, _, Tryz.underlying293, rfl, Tryz.underlying292, rfl, rfl⟩
instance : Fo Tryz.prog 293 3 3 := ⟨by kernel_rfl⟩
instance : Fdv Tryz.prog 293 3 3 := ⟨_, _, _, Tryz.underlying293, rfl, Tryz.underlying217, rfl, rfl⟩
instance : Fo Tryz.prog 293 4 4 := ⟨by kernel_rfl⟩
instance : Fdv Tryz.prog 293 4 4 := ⟨_, _, _, Tryz.underlying293, rfl, Tryz.underlying217, rfl, rfl⟩
instance : Plc Tryz.prog 293 (List.toArray [(0, 1), (1, 1), (2, 1), (3, 1), (4, 1)]) := ⟨_, Tryz.underlying293, fun w => by kernel_rfl⟩
instance : Con Tryz.prog 293 := ⟨_, Tryz.underlying293, fun _ => nofun⟩
instance : In Tryz.prog 294 (.agg (List.toArray [(.int .i32 0), (.int .u16 0), (.int .u16 0), (.int .u32 0), (.int .u32 0)])) 5 16 := ⟨by show (_ : Option _) = _; kernel_rfl⟩
instance : Ag Tryz.prog 294 := ⟨_, Tryz.underlying294, rfl⟩
instance : Fo Tryz.prog 294 0 0 := ⟨by kernel_rfl⟩
instance : Fdv Tryz.prog 294 0 0 := ⟨_, _, _, Tryz.underlying294, rfl, Tryz.underlying281, rfl, rfl⟩
instance : Fo Tryz.prog 294 1 1 := ⟨by kernel_rfl⟩
instance : Fdv Tryz.prog 294 1 1 := ⟨_, _, _, Tryz.underlying294, rfl, Tryz.underlying292, rfl, rfl⟩
instance : Fo Tryz.prog 294 2 2 := ⟨by kernel_rfl⟩
instance : Fdv Tryz.prog 294 2 2 := ⟨_, _, _, Tryz.underlying294, rfl, Tryz.underlying292, rfl, rfl⟩
instance : Fo Tryz.prog 294 3 3 := ⟨by kernel_rfl⟩
instance : Fdv Tryz.prog 294 3 3 := ⟨_, _, _, Tryz.underlying294, rfl, Tryz.underlying217, rfl, rfl⟩
instance : Fo Tryz.prog 294 4 4 := ⟨by kernel_rfl⟩
instance : Fdv Tryz.prog 294 4 4 := ⟨_, _, _, Tryz.underlying294, rfl, Tryz.underlying217, rfl, rfl⟩
instance : Plc Tryz.prog 294 (List.toArray [(0, 1), (1, 1), (2, 1), (3, 1), (4, 1)]) := ⟨_, Tryz.underlying294, fun w => by kernel_rfl⟩
instance : Con Tryz.prog 294 := ⟨_, Tryz.underlying294, fun _ => nofun⟩
instance : In Tryz.prog 295 (.slice none 0 0) 1 24 := ⟨by show (_ : Option _) = _; kernel_rfl⟩
instance : Fl Tryz.prog 295 := ⟨_, Tryz.underlying295, rfl⟩
instance : Sli Tryz.prog 295 298 := ⟨Tryz.underlying295⟩
instance : In Tryz.prog 296 (.int .i32 0) 1 4 := ⟨by show (_ : Option _) = _; kernel_rfl⟩
instance : Fl Tryz.prog 296 := ⟨_, Tryz.underlying296, rfl⟩
instance : Itg Tryz.prog 296 .i32 := ⟨Tryz.underlying296⟩
instance : Con Tryz.prog 296 := ⟨_, Tryz.underlying296, fun _ => nofun⟩
instance : In Tryz.prog 297 (.agg (List.toArray [(.int .i32 0), (.int .i32 0), (.int .i32 0), (.int .i32 0)])) 4 16 := ⟨by show (_ : Option _) = _; kernel_rfl⟩
instance : Ag Tryz.prog 297 := ⟨_, Tryz.underlying297, rfl⟩
instance : Fo Tryz.prog 297 0 0 := ⟨by kernel_rfl⟩
instance : Fdv Tryz.prog 297 0 0 := ⟨_, _, _, Tryz.underlying297, rfl, Tryz.underlying281, rfl, rfl⟩
instance : Fo Tryz.prog 297 1 1 := ⟨by kernel_rfl⟩
instance : Fdv Tryz.prog 297 1 1 := ⟨_, _, _, Tryz.underlying297, rfl, Tryz.underlying282, rfl, rfl⟩
instance : Fo Tryz.prog 297 2 2 := ⟨by kernel_rfl⟩
instance : Fdv Tryz.prog 297 2 2 := ⟨_, _, _, Tryz.underlying297, rfl, Tryz.underlying296, rfl, rfl⟩
instance : Fo Tryz.prog 297 3 3 := ⟨by kernel_rfl⟩
instance : Fdv Tryz.prog 297 3 3 := ⟨_, _, _, Tryz.underlying297, rfl, Tryz.underlying296, rfl, rfl⟩
instance : Plc Tryz.prog 297 (List.toArray [(0, 1), (1, 1), (2, 1), (3, 1)]) := ⟨_, Tryz.underlying297, fun w => by kernel_rfl⟩
instance : Con Tryz.prog 297 := ⟨_, Tryz.underlying297, fun _ => nofun⟩
instance : In Tryz.prog 298 (.agg (List.toArray [(.int .i32 0), (.int .i32 0), (.int .i32 0), (.int .i32 0)])) 4 16 := ⟨by show (_ : Option _) = _; kernel_rfl⟩
instance : Ag Tryz.prog 298 := ⟨_, Tryz.underlying298, rfl⟩
instance : Fo Tryz.prog 298 0 0 := ⟨by kernel_rfl⟩
instance : Fdv Tryz.prog 298 0 0 := ⟨_, _, _, Tryz.underlying298, rfl, Tryz.underlying281, rfl, rfl⟩
instance : Fo Tryz.prog 298 1 1 := ⟨by kernel_rfl⟩
instance : Fdv Tryz.prog 298 1 1 := ⟨_, _, _, Tryz.underlying298, rfl, Tryz.underlying282, rfl, rfl⟩
instance : Fo Tryz.prog 298 2 2 := ⟨by kernel_rfl⟩
instance : Fdv Tryz.prog 298 2 2 := ⟨_, _, _, Tryz.underlying298, rfl, Tryz.underlying296, rfl, rfl⟩
instance : Fo Tryz.prog 298 3 3 := ⟨by kernel_rfl⟩
instance : Fdv Tryz.prog 298 3 3 := ⟨_, _, _, Tryz.underlying298, rfl, Tryz.underlying296, rfl, rfl⟩
instance : Plc Tryz.prog 298 (List.toArray [(0, 1), (1, 1), (2, 1), (3, 1)]) := ⟨_, Tryz.underlying298, fun w => by kernel_rfl⟩
instance : Con Tryz.prog 298 := ⟨_, Tryz.underlying298, fun _ => nofun⟩
instance : In Tryz.prog 299 (.pointer none) 1 8 := ⟨by show (_ : Option _) = _; kernel_rfl⟩
instance : Fl Tryz.prog 299 := ⟨_, Tryz.underlying299, rfl⟩
instance : Ptr Tryz.prog 299 := ⟨by kernel_rfl⟩
instance : Con Tryz.prog 299 := ⟨_, Tryz.underlying299, fun _ => nofun⟩
end Go.Proofs.YtiofekhdicfmoaaGreatDoor
