/- Part 3 of the proof: texts merged. -/
import Derived.Test.YthfabodamhdhaaaQDb
import Derived.Test.YthfabodamhdhaaaRows
import Derived.Maps.Keyed
import Derived.DeepKeys5
import Derived.Carry
namespace Go.Proofs.Ythfabodamhdhaaa
open Go Tx
set_option maxRecDepth 100000
def ti1 : TI := ⟨1, [.nilFunc], 8, .plain⟩
theorem tok1 : TOK Try.prog 1 ti1 := ⟨by kernel_rfl, by kernel_rfl⟩
def ti2 : TI := ⟨1, [.int .i64 0], 8, .int .i64⟩
theorem tok2 : TOK Try.prog 2 ti2 := ⟨by kernel_rfl, by kernel_rfl⟩
def ti3 : TI := ⟨1, [.int .i64 0], 8, .int .i64⟩
theorem tok3 : TOK Try.prog 3 ti3 := ⟨by kernel_rfl, by kernel_rfl⟩
def ti4 : TI := ⟨1, [.bool false], 1, .plain⟩
theorem tok4 : TOK Try.prog 4 ti4 := ⟨by kernel_rfl, by kernel_rfl⟩
def ti5 : TI := ⟨1, [.int .u8 0], 1, .int .u8⟩
theorem tok5 : TOK Try.prog 5 ti5 := ⟨by kernel_rfl, by kernel_rfl⟩
def ti6 : TI := ⟨1, [.int .u8 0], 1, .int .u8⟩
theorem tok6 : TOK Try.prog 6 ti6 := ⟨by kernel_rfl, by kernel_rfl⟩
def ti7 : TI := ⟨4, [.int .i64 0, .int .i64 0, .bool false, .int .u8 0], 24, .struct [(0, 2), (1, 3), (2, 4), (3, 6)]⟩
theorem tok7 : TOK Try.prog 7 ti7 := ⟨by kernel_rfl, by kernel_rfl⟩
def ti8 : TI := ⟨4, [.int .i64 0, .int .i64 0, .bool false, .int .u8 0], 24, .struct [(0, 2), (1, 3), (2, 4), (3, 6)]⟩
theorem tok8 : TOK Try.prog 8 ti8 := ⟨by kernel_rfl, by kernel_rfl⟩
def ti9 : TI := ⟨1, [.string ByteArray.empty], 16, .plain⟩
theorem tok9 : TOK Try.prog 9 ti9 := ⟨by kernel_rfl, by kernel_rfl⟩
def ti10 : TI := ⟨1, [.string ByteArray.empty], 16, .plain⟩
theorem tok10 : TOK Try.prog 10 ti10 := ⟨by kernel_rfl, by kernel_rfl⟩
def ti11 : TI := ⟨1, [.string ByteArray.empty], 16, .plain⟩
theorem tok11 : TOK Try.prog 11 ti11 := ⟨by kernel_rfl, by kernel_rfl⟩
def ti12 : TI := ⟨1, [.int .u64 0], 8, .int .u64⟩
theorem tok12 : TOK Try.prog 12 ti12 := ⟨by kernel_rfl, by kernel_rfl⟩
def ti13 : TI := ⟨2, [.string ByteArray.empty, .int .u64 0], 24, .struct [(0, 9), (1, 12)]⟩
theorem tok13 : TOK Try.prog 13 ti13 := ⟨by kernel_rfl, by kernel_rfl⟩
def ti14 : TI := ⟨2, [.string ByteArray.empty, .int .u64 0], 24, .struct [(0, 9), (1, 12)]⟩
theorem tok14 : TOK Try.prog 14 ti14 := ⟨by kernel_rfl, by kernel_rfl⟩
def ti15 : TI := ⟨1, [.pointer none], 8, .plain⟩
theorem tok15 : TOK Try.prog 15 ti15 := ⟨by kernel_rfl, by kernel_rfl⟩
def ti16 : TI := ⟨1, [.pointer none], 8, .plain⟩
theorem tok16 : TOK Try.prog 16 ti16 := ⟨by kernel_rfl, by kernel_rfl⟩
def ti17 : TI := ⟨1, [.pointer none], 8, .plain⟩
theorem tok17 : TOK Try.prog 17 ti17 := ⟨by kernel_rfl, by kernel_rfl⟩
def ti18 : TI := ⟨1, [.pointer none], 8, .struct [(0, 17)]⟩
theorem tok18 : TOK Try.prog 18 ti18 := ⟨by kernel_rfl, by kernel_rfl⟩
def ti19 : TI := ⟨1, [.pointer none], 8, .struct [(0, 17)]⟩
theorem tok19 : TOK Try.prog 19 ti19 := ⟨by kernel_rfl, by kernel_rfl⟩
def ti21 : TI := ⟨1, [.int .i32 0], 4, .int .i32⟩
theorem tok21 : TOK Try.prog 21 ti21 := ⟨by kernel_rfl, by kernel_rfl⟩
def ti22 : TI := ⟨1, [.slice none 0 0], 24, .slice 69⟩
theorem tok22 : TOK Try.prog 22 ti22 := ⟨by kernel_rfl, by kernel_rfl⟩
def ti23 : TI := ⟨1, [.slice none 0 0], 24, .slice 113⟩
theorem tok23 : TOK Try.prog 23 ti23 := ⟨by kernel_rfl, by kernel_rfl⟩
def ti24 : TI := ⟨5, [.int .i64 0, .int .i64 0, .int .i64 0, .slice none 0 0, .slice none 0 0], 72, .struct [(0, 3), (1, 3), (2, 3), (3, 22), (4, 23)]⟩
theorem tok24 : TOK Try.prog 24 ti24 := ⟨by kernel_rfl, by kernel_rfl⟩
def ti25 : TI := ⟨5, [.int .i64 0, .int .i64 0, .int .i64 0, .slice none 0 0, .slice none 0 0], 72, .struct [(0, 3), (1, 3), (2, 3), (3, 22), (4, 23)]⟩
theorem tok25 : TOK Try.prog 25 ti25 := ⟨by kernel_rfl, by kernel_rfl⟩
def ti26 : TI := ⟨1, [.nilFunc], 8, .plain⟩
theorem tok26 : TOK Try.prog 26 ti26 := ⟨by kernel_rfl, by kernel_rfl⟩
def ti27 : TI := ⟨1, [.nilFunc], 8, .plain⟩
theorem tok27 : TOK Try.prog 27 ti27 := ⟨by kernel_rfl, by kernel_rfl⟩
def ti28 : TI := ⟨1, [.slice none 0 0], 24, .slice 96⟩
theorem tok28 : TOK Try.prog 28 ti28 := ⟨by kernel_rfl, by kernel_rfl⟩
def ti29 : TI := ⟨1, [.int .i64 0], 8, .int .i64⟩
theorem tok29 : TOK Try.prog 29 ti29 := ⟨by kernel_rfl, by kernel_rfl⟩
def ti31 : TI := ⟨1, [.nilFunc], 8, .plain⟩
theorem tok31 : TOK Try.prog 31 ti31 := ⟨by kernel_rfl, by kernel_rfl⟩
def ti32 : TI := ⟨1, [.slice none 0 0], 24, .slice 57⟩
theorem tok32 : TOK Try.prog 32 ti32 := ⟨by kernel_rfl, by kernel_rfl⟩
def ti33 : TI := ⟨1, [.slice none 0 0], 24, .slice 61⟩
theorem tok33 : TOK Try.prog 33 ti33 := ⟨by kernel_rfl, by kernel_rfl⟩
def ti34 : TI := ⟨5, [.int .i64 0, .int .i64 0, .int .i64 0, .slice none 0 0, .slice none 0 0], 72, .struct [(0, 3), (1, 3), (2, 3), (3, 32), (4, 33)]⟩
theorem tok34 : TOK Try.prog 34 ti34 := ⟨by kernel_rfl, by kernel_rfl⟩
def ti35 : TI := ⟨5, [.int .i64 0, .int .i64 0, .int .i64 0, .slice none 0 0, .slice none 0 0], 72, .struct [(0, 3), (1, 3), (2, 3), (3, 32), (4, 33)]⟩
theorem tok35 : TOK Try.prog 35 ti35 := ⟨by kernel_rfl, by kernel_rfl⟩
def ti36 : TI := ⟨1, [.nilFunc], 8, .plain⟩
theorem tok36 : TOK Try.prog 36 ti36 := ⟨by kernel_rfl, by kernel_rfl⟩
def ti37 : TI := ⟨1, [.slice none 0 0], 24, .slice 89⟩
theorem tok37 : TOK Try.prog 37 ti37 := ⟨by kernel_rfl, by kernel_rfl⟩
def ti38 : TI := ⟨1, [.nilFunc], 8, .plain⟩
theorem tok38 : TOK Try.prog 38 ti38 := ⟨by kernel_rfl, by kernel_rfl⟩
def ti39 : TI := ⟨1, [.nilFunc], 8, .plain⟩
theorem tok39 : TOK Try.prog 39 ti39 := ⟨by kernel_rfl, by kernel_rfl⟩
def ti40 : TI := ⟨1, [.slice none 0 0], 24, .slice 82⟩
theorem tok40 : TOK Try.prog 40 ti40 := ⟨by kernel_rfl, by kernel_rfl⟩
def ti41 : TI := ⟨1, [.nilFunc], 8, .plain⟩
theorem tok41 : TOK Try.prog 41 ti41 := ⟨by kernel_rfl, by kernel_rfl⟩
def ti42 : TI := ⟨1, [.nilFunc], 8, .plain⟩
theorem tok42 : TOK Try.prog 42 ti42 := ⟨by kernel_rfl, by kernel_rfl⟩
def ti43 : TI := ⟨1, [.slice none 0 0], 24, .slice 3⟩
theorem tok43 : TOK Try.prog 43 ti43 := ⟨by kernel_rfl, by kernel_rfl⟩
def ti44 : TI := ⟨1, [.slice none 0 0], 24, .slice 43⟩
theorem tok44 : TOK Try.prog 44 ti44 := ⟨by kernel_rfl, by kernel_rfl⟩
def ti46 : TI := ⟨1, [.nilFunc], 8, .plain⟩
theorem tok46 : TOK Try.prog 46 ti46 := ⟨by kernel_rfl, by kernel_rfl⟩
def ti47 : TI := ⟨1, [.nilFunc], 8, .plain⟩
theorem tok47 : TOK Try.prog 47 ti47 := ⟨by kernel_rfl, by kernel_rfl⟩
def ti48 : TI := ⟨1, [.nilFunc], 8, .plain⟩
theorem tok48 : TOK Try.prog 48 ti48 := ⟨by kernel_rfl, by kernel_rfl⟩
def ti49 : TI := ⟨1, [.nilFunc], 8, .plain⟩
theorem tok49 : TOK Try.prog 49 ti49 := ⟨by kernel_rfl, by kernel_rfl⟩
def ti50 : TI := ⟨1, [.nilFunc], 8, .plain⟩
theorem tok50 : TOK Try.prog 50 ti50 := ⟨by kernel_rfl, by kernel_rfl⟩
def ti51 : TI := ⟨1, [.nilFunc], 8, .plain⟩
theorem tok51 : TOK Try.prog 51 ti51 := ⟨by kernel_rfl, by kernel_rfl⟩
def ti52 : TI := ⟨1, [.int .u16 0], 2, .int .u16⟩
theorem tok52 : TOK Try.prog 52 ti52 := ⟨by kernel_rfl, by kernel_rfl⟩
def ti53 : TI := ⟨1, [.slice none 0 0], 24, .slice 55⟩
theorem tok53 : TOK Try.prog 53 ti53 := ⟨by kernel_rfl, by kernel_rfl⟩
def ti54 : TI := ⟨2, [.int .i64 0, .int .i64 0], 16, .struct [(0, 3), (1, 3)]⟩
theorem tok54 : TOK Try.prog 54 ti54 := ⟨by kernel_rfl, by kernel_rfl⟩
def ti55 : TI := ⟨2, [.int .i64 0, .int .i64 0], 16, .struct [(0, 3), (1, 3)]⟩
theorem tok55 : TOK Try.prog 55 ti55 := ⟨by kernel_rfl, by kernel_rfl⟩
def ti56 : TI := ⟨9, [.slice none 0 0, .int .i64 0, .int .i64 0, .int .i64 0, .int .i64 0, .int .i64 0, .slice none 0 0, .int .i64 0, .int .i64 0], 104, .struct [(0, 53), (1, 55), (3, 3), (4, 3), (5, 3), (6, 53), (7, 3), (8, 3)]⟩
theorem tok56 : TOK Try.prog 56 ti56 := ⟨by kernel_rfl, by kernel_rfl⟩
def ti57 : TI := ⟨9, [.slice none 0 0, .int .i64 0, .int .i64 0, .int .i64 0, .int .i64 0, .int .i64 0, .slice none 0 0, .int .i64 0, .int .i64 0], 104, .struct [(0, 53), (1, 55), (3, 3), (4, 3), (5, 3), (6, 53), (7, 3), (8, 3)]⟩
theorem tok57 : TOK Try.prog 57 ti57 := ⟨by kernel_rfl, by kernel_rfl⟩
def ti58 : TI := ⟨1, [.pointer none], 8, .plain⟩
theorem tok58 : TOK Try.prog 58 ti58 := ⟨by kernel_rfl, by kernel_rfl⟩
def ti59 : TI := ⟨2, [.int .i64 0, .int .i64 0], 16, .struct [(0, 3), (1, 3)]⟩
theorem tok59 : TOK Try.prog 59 ti59 := ⟨by kernel_rfl, by kernel_rfl⟩
def ti60 : TI := ⟨2, [.int .i64 0, .int .i64 0], 16, .struct [(0, 3), (1, 3)]⟩
theorem tok60 : TOK Try.prog 60 ti60 := ⟨by kernel_rfl, by kernel_rfl⟩
def ti61 : TI := ⟨1, [.slice none 0 0], 24, .slice 60⟩
theorem tok61 : TOK Try.prog 61 ti61 := ⟨by kernel_rfl, by kernel_rfl⟩
def ti62 : TI := ⟨1, [.nilFunc], 8, .plain⟩
theorem tok62 : TOK Try.prog 62 ti62 := ⟨by kernel_rfl, by kernel_rfl⟩
def ti63 : TI := ⟨1, [.int .i8 0], 1, .int .i8⟩
theorem tok63 : TOK Try.prog 63 ti63 := ⟨by kernel_rfl, by kernel_rfl⟩
def ti65 : TI := ⟨1, [.nilFunc], 8, .plain⟩
theorem tok65 : TOK Try.prog 65 ti65 := ⟨by kernel_rfl, by kernel_rfl⟩
def ti66 : TI := ⟨1, [.slice none 0 0], 24, .slice 67⟩
theorem tok66 : TOK Try.prog 66 ti66 := ⟨by kernel_rfl, by kernel_rfl⟩
def ti67 : TI := ⟨2, [.int .i64 0, .int .i64 0], 16, .struct [(0, 3), (1, 3)]⟩
theorem tok67 : TOK Try.prog 67 ti67 := ⟨by kernel_rfl, by kernel_rfl⟩
def ti68 : TI := ⟨9, [.slice none 0 0, .int .i64 0, .int .i64 0, .int .i64 0, .int .i64 0, .int .i64 0, .slice none 0 0, .int .i64 0, .int .i64 0], 104, .struct [(0, 66), (1, 67), (3, 3), (4, 3), (5, 3), (6, 66), (7, 3), (8, 3)]⟩
theorem tok68 : TOK Try.prog 68 ti68 := ⟨by kernel_rfl, by kernel_rfl⟩
def ti69 : TI := ⟨9, [.slice none 0 0, .int .i64 0, .int .i64 0, .int .i64 0, .int .i64 0, .int .i64 0, .slice none 0 0, .int .i64 0, .int .i64 0], 104, .struct [(0, 66), (1, 67), (3, 3), (4, 3), (5, 3), (6, 66), (7, 3), (8, 3)]⟩
theorem tok69 : TOK Try.prog 69 ti69 := ⟨by kernel_rfl, by kernel_rfl⟩
def ti70 : TI := ⟨1, [.nilFunc], 8, .plain⟩
theorem tok70 : TOK Try.prog 70 ti70 := ⟨by kernel_rfl, by kernel_rfl⟩
def ti71 : TI := ⟨1, [.nilFunc], 8, .plain⟩
theorem tok71 : TOK Try.prog 71 ti71 := ⟨by kernel_rfl, by kernel_rfl⟩
def ti72 : TI := ⟨1, [.nilFunc], 8, .plain⟩
theorem tok72 : TOK Try.prog 72 ti72 := ⟨by kernel_rfl, by kernel_rfl⟩
def ti73 : TI := ⟨1, [.nilFunc], 8, .plain⟩
theorem tok73 : TOK Try.prog 73 ti73 := ⟨by kernel_rfl, by kernel_rfl⟩
def ti74 : TI := ⟨1, [.nilFunc], 8, .plain⟩
theorem tok74 : TOK Try.prog 74 ti74 := ⟨by kernel_rfl, by kernel_rfl⟩
def ti75 : TI := ⟨1, [.slice none 0 0], 24, .slice 81⟩
theorem tok75 : TOK Try.prog 75 ti75 := ⟨by kernel_rfl, by kernel_rfl⟩
def ti77 : TI := ⟨1, [.nilFunc], 8, .plain⟩
theorem tok77 : TOK Try.prog 77 ti77 := ⟨by kernel_rfl, by kernel_rfl⟩
def ti78 : TI := ⟨1, [.nilFunc], 8, .plain⟩
theorem tok78 : TOK Try.prog 78 ti78 := ⟨by kernel_rfl, by kernel_rfl⟩
def ti79 : TI := ⟨1, [.nilFunc], 8, .plain⟩
theorem tok79 : TOK Try.prog 79 ti79 := ⟨by kernel_rfl, by kernel_rfl⟩
def ti80 : TI := ⟨2, [.int .i64 0, .int .u8 0], 16, .struct [(0, 3), (1, 5)]⟩
theorem tok80 : TOK Try.prog 80 ti80 := ⟨by kernel_rfl, by kernel_rfl⟩
def ti81 : TI := ⟨2, [.int .i64 0, .int .u8 0], 16, .struct [(0, 3), (1, 5)]⟩
theorem tok81 : TOK Try.prog 81 ti81 := ⟨by kernel_rfl, by kernel_rfl⟩
def ti82 : TI := ⟨2, [.int .i64 0, .int .u8 0], 16, .struct [(0, 3), (1, 5)]⟩
theorem tok82 : TOK Try.prog 82 ti82 := ⟨by kernel_rfl, by kernel_rfl⟩
def ti83 : TI := ⟨1, [.nilFunc], 8, .plain⟩
theorem tok83 : TOK Try.prog 83 ti83 := ⟨by kernel_rfl, by kernel_rfl⟩
def ti84 : TI := ⟨1, [.nilFunc], 8, .plain⟩
theorem tok84 : TOK Try.prog 84 ti84 := ⟨by kernel_rfl, by kernel_rfl⟩
def ti85 : TI := ⟨1, [.nilFunc], 8, .plain⟩
theorem tok85 : TOK Try.prog 85 ti85 := ⟨by kernel_rfl, by kernel_rfl⟩
def ti86 : TI := ⟨1, [.nilFunc], 8, .plain⟩
theorem tok86 : TOK Try.prog 86 ti86 := ⟨by kernel_rfl, by kernel_rfl⟩
def ti87 : TI := ⟨1, [.nilFunc], 8, .plain⟩
theorem tok87 : TOK Try.prog 87 ti87 := ⟨by kernel_rfl, by kernel_rfl⟩
def ti88 : TI := ⟨3, [.int .i64 0, .int .i64 0, .int .i64 0], 24, .struct [(0, 3), (1, 3), (2, 3)]⟩
theorem tok88 : TOK Try.prog 88 ti88 := ⟨by kernel_rfl, by kernel_rfl⟩
def ti89 : TI := ⟨3, [.int .i64 0, .int .i64 0, .int .i64 0], 24, .struct [(0, 3), (1, 3), (2, 3)]⟩
theorem tok89 : TOK Try.prog 89 ti89 := ⟨by kernel_rfl, by kernel_rfl⟩
def ti90 : TI := ⟨1, [.nilFunc], 8, .plain⟩
theorem tok90 : TOK Try.prog 90 ti90 := ⟨by kernel_rfl, by kernel_rfl⟩
def ti91 : TI := ⟨1, [.nilFunc], 8, .plain⟩
theorem tok91 : TOK Try.prog 91 ti91 := ⟨by kernel_rfl, by kernel_rfl⟩
def ti93 : TI := ⟨1, [.nilFunc], 8, .plain⟩
theorem tok93 : TOK Try.prog 93 ti93 := ⟨by kernel_rfl, by kernel_rfl⟩
def ti94 : TI := ⟨1, [.nilFunc], 8, .plain⟩
theorem tok94 : TOK Try.prog 94 ti94 := ⟨by kernel_rfl, by kernel_rfl⟩
def ti95 : TI := ⟨1, [.nilFunc], 8, .plain⟩
theorem tok95 : TOK Try.prog 95 ti95 := ⟨by kernel_rfl, by kernel_rfl⟩
def ti96 : TI := ⟨3, [.int .i64 0, .int .i64 0, .int .i64 0], 24, .struct [(0, 3), (1, 3), (2, 3)]⟩
theorem tok96 : TOK Try.prog 96 ti96 := ⟨by kernel_rfl, by kernel_rfl⟩
def ti97 : TI := ⟨1, [.nilFunc], 8, .plain⟩
theorem tok97 : TOK Try.prog 97 ti97 := ⟨by kernel_rfl, by kernel_rfl⟩
def ti98 : TI := ⟨1, [.nilFunc], 8, .plain⟩
theorem tok98 : TOK Try.prog 98 ti98 := ⟨by kernel_rfl, by kernel_rfl⟩
def ti99 : TI := ⟨3, [.slice none 0 0, .int .i64 0, .slice none 0 0], 56, .struct [(0, 43), (1, 3), (2, 44)]⟩
theorem tok99 : TOK Try.prog 99 ti99 := ⟨by kernel_rfl, by kernel_rfl⟩
def ti100 : TI := ⟨3, [.slice none 0 0, .int .i64 0, .slice none 0 0], 56, .struct [(0, 43), (1, 3), (2, 44)]⟩
theorem tok100 : TOK Try.prog 100 ti100 := ⟨by kernel_rfl, by kernel_rfl⟩
def ti102 : TI := ⟨1, [.nilFunc], 8, .plain⟩
theorem tok102 : TOK Try.prog 102 ti102 := ⟨by kernel_rfl, by kernel_rfl⟩
def ti103 : TI := ⟨1, [.nilFunc], 8, .plain⟩
theorem tok103 : TOK Try.prog 103 ti103 := ⟨by kernel_rfl, by kernel_rfl⟩
def ti104 : TI := ⟨1, [.slice none 0 0], 24, .slice 52⟩
theorem tok104 : TOK Try.prog 104 ti104 := ⟨by kernel_rfl, by kernel_rfl⟩
def ti105 : TI := ⟨1, [.slice none 0 0], 24, .slice 158⟩
theorem tok105 : TOK Try.prog 105 ti105 := ⟨by kernel_rfl, by kernel_rfl⟩
def ti106 : TI := ⟨2, [.slice none 0 0, .int .i64 0], 32, .struct [(0, 105), (1, 3)]⟩
theorem tok106 : TOK Try.prog 106 ti106 := ⟨by kernel_rfl, by kernel_rfl⟩
def ti107 : TI := ⟨2, [.slice none 0 0, .int .i64 0], 32, .struct [(0, 105), (1, 3)]⟩
theorem tok107 : TOK Try.prog 107 ti107 := ⟨by kernel_rfl, by kernel_rfl⟩
def ti108 : TI := ⟨1, [.nilFunc], 8, .plain⟩
theorem tok108 : TOK Try.prog 108 ti108 := ⟨by kernel_rfl, by kernel_rfl⟩
def ti110 : TI := ⟨1, [.nilFunc], 8, .plain⟩
theorem tok110 : TOK Try.prog 110 ti110 := ⟨by kernel_rfl, by kernel_rfl⟩
def ti111 : TI := ⟨1, [.nilFunc], 8, .plain⟩
theorem tok111 : TOK Try.prog 111 ti111 := ⟨by kernel_rfl, by kernel_rfl⟩
def ti112 : TI := ⟨1, [.nilFunc], 8, .plain⟩
theorem tok112 : TOK Try.prog 112 ti112 := ⟨by kernel_rfl, by kernel_rfl⟩
def ti113 : TI := ⟨1, [.slice none 0 0], 24, .slice 127⟩
theorem tok113 : TOK Try.prog 113 ti113 := ⟨by kernel_rfl, by kernel_rfl⟩
def ti114 : TI := ⟨1, [.pointer none], 8, .plain⟩
theorem tok114 : TOK Try.prog 114 ti114 := ⟨by kernel_rfl, by kernel_rfl⟩
def ti115 : TI := ⟨1, [.nilFunc], 8, .plain⟩
theorem tok115 : TOK Try.prog 115 ti115 := ⟨by kernel_rfl, by kernel_rfl⟩
def ti116 : TI := ⟨1, [.int .u64 0], 8, .int .u64⟩
theorem tok116 : TOK Try.prog 116 ti116 := ⟨by kernel_rfl, by kernel_rfl⟩
def ti117 : TI := ⟨3, [.int .u64 0, .int .i64 0, .int .i64 0], 24, .struct [(0, 116), (1, 3), (2, 3)]⟩
theorem tok117 : TOK Try.prog 117 ti117 := ⟨by kernel_rfl, by kernel_rfl⟩
def ti118 : TI := ⟨3, [.int .u64 0, .int .i64 0, .int .i64 0], 24, .struct [(0, 116), (1, 3), (2, 3)]⟩
theorem tok118 : TOK Try.prog 118 ti118 := ⟨by kernel_rfl, by kernel_rfl⟩
def ti119 : TI := ⟨1, [.slice none 0 0], 24, .slice 168⟩
theorem tok119 : TOK Try.prog 119 ti119 := ⟨by kernel_rfl, by kernel_rfl⟩
def ti120 : TI := ⟨1, [.nilFunc], 8, .plain⟩
theorem tok120 : TOK Try.prog 120 ti120 := ⟨by kernel_rfl, by kernel_rfl⟩
def ti121 : TI := ⟨8, [.int .i64 0, .int .i64 0, .int .i64 0, .slice none 0 0, .slice none 0 0, .slice none 0 0, .nilFunc, .nilFunc], 112, .struct [(0, 35), (5, 119), (6, 120), (7, 120)]⟩
theorem tok121 : TOK Try.prog 121 ti121 := ⟨by kernel_rfl, by kernel_rfl⟩
def ti122 : TI := ⟨8, [.int .i64 0, .int .i64 0, .int .i64 0, .slice none 0 0, .slice none 0 0, .slice none 0 0, .nilFunc, .nilFunc], 112, .struct [(0, 35), (5, 119), (6, 120), (7, 120)]⟩
theorem tok122 : TOK Try.prog 122 ti122 := ⟨by kernel_rfl, by kernel_rfl⟩
def ti124 : TI := ⟨1, [.nilFunc], 8, .plain⟩
theorem tok124 : TOK Try.prog 124 ti124 := ⟨by kernel_rfl, by kernel_rfl⟩
def ti125 : TI := ⟨1, [.nilFunc], 8, .plain⟩
theorem tok125 : TOK Try.prog 125 ti125 := ⟨by kernel_rfl, by kernel_rfl⟩
def ti126 : TI := ⟨1, [.nilFunc], 8, .plain⟩
theorem tok126 : TOK Try.prog 126 ti126 := ⟨by kernel_rfl, by kernel_rfl⟩
def ti127 : TI := ⟨2, [.int .i64 0, .int .i64 0], 16, .struct [(0, 3), (1, 3)]⟩
theorem tok127 : TOK Try.prog 127 ti127 := ⟨by kernel_rfl, by kernel_rfl⟩
def ti128 : TI := ⟨1, [.nilFunc], 8, .plain⟩
theorem tok128 : TOK Try.prog 128 ti128 := ⟨by kernel_rfl, by kernel_rfl⟩
def ti129 : TI := ⟨1, [.nilFunc], 8, .plain⟩
theorem tok129 : TOK Try.prog 129 ti129 := ⟨by kernel_rfl, by kernel_rfl⟩
def ti130 : TI := ⟨1, [.nilFunc], 8, .plain⟩
theorem tok130 : TOK Try.prog 130 ti130 := ⟨by kernel_rfl, by kernel_rfl⟩
def ti131 : TI := ⟨1, [.nilFunc], 8, .plain⟩
theorem tok131 : TOK Try.prog 131 ti131 := ⟨by kernel_rfl, by kernel_rfl⟩
def ti132 : TI := ⟨1, [.nilFunc], 8, .plain⟩
theorem tok132 : TOK Try.prog 132 ti132 := ⟨by kernel_rfl, by kernel_rfl⟩
def ti133 : TI := ⟨1, [.nilFunc], 8, .plain⟩
theorem tok133 : TOK Try.prog 133 ti133 := ⟨by kernel_rfl, by kernel_rfl⟩
def ti134 : TI := ⟨1, [.nilFunc], 8, .plain⟩
theorem tok134 : TOK Try.prog 134 ti134 := ⟨by kernel_rfl, by kernel_rfl⟩
def ti135 : TI := ⟨1, [.nilFunc], 8, .plain⟩
theorem tok135 : TOK Try.prog 135 ti135 := ⟨by kernel_rfl, by kernel_rfl⟩
def ti136 : TI := ⟨1, [.nilFunc], 8, .plain⟩
theorem tok136 : TOK Try.prog 136 ti136 := ⟨by kernel_rfl, by kernel_rfl⟩
def ti137 : TI := ⟨1, [.nilFunc], 8, .plain⟩
theorem tok137 : TOK Try.prog 137 ti137 := ⟨by kernel_rfl, by kernel_rfl⟩
def ti138 : TI := ⟨1, [.nilFunc], 8, .plain⟩
theorem tok138 : TOK Try.prog 138 ti138 := ⟨by kernel_rfl, by kernel_rfl⟩
def ti139 : TI := ⟨1, [.nilFunc], 8, .plain⟩
theorem tok139 : TOK Try.prog 139 ti139 := ⟨by kernel_rfl, by kernel_rfl⟩
def ti140 : TI := ⟨1, [.nilFunc], 8, .plain⟩
theorem tok140 : TOK Try.prog 140 ti140 := ⟨by kernel_rfl, by kernel_rfl⟩
def ti141 : TI := ⟨1, [.nilFunc], 8, .plain⟩
theorem tok141 : TOK Try.prog 141 ti141 := ⟨by kernel_rfl, by kernel_rfl⟩
def ti142 : TI := ⟨1, [.nilFunc], 8, .plain⟩
theorem tok142 : TOK Try.prog 142 ti142 := ⟨by kernel_rfl, by kernel_rfl⟩
def ti143 : TI := ⟨1, [.nilFunc], 8, .plain⟩
theorem tok143 : TOK Try.prog 143 ti143 := ⟨by kernel_rfl, by kernel_rfl⟩
def ti144 : TI := ⟨1, [.nilFunc], 8, .plain⟩
theorem tok144 : TOK Try.prog 144 ti144 := ⟨by kernel_rfl, by kernel_rfl⟩
def ti145 : TI := ⟨1, [.nilFunc], 8, .plain⟩
theorem tok145 : TOK Try.prog 145 ti145 := ⟨by kernel_rfl, by kernel_rfl⟩
def ti146 : TI := ⟨1, [.nilFunc], 8, .plain⟩
theorem tok146 : TOK Try.prog 146 ti146 := ⟨by kernel_rfl, by kernel_rfl⟩
def ti147 : TI := ⟨1, [.nilFunc], 8, .plain⟩
theorem tok147 : TOK Try.prog 147 ti147 := ⟨by kernel_rfl, by kernel_rfl⟩
def ti148 : TI := ⟨1, [.nilFunc], 8, .plain⟩
theorem tok148 : TOK Try.prog 148 ti148 := ⟨by kernel_rfl, by kernel_rfl⟩
def ti149 : TI := ⟨1, [.nilFunc], 8, .plain⟩
theorem tok149 : TOK Try.prog 149 ti149 := ⟨by kernel_rfl, by kernel_rfl⟩
def ti150 : TI := ⟨4, [.int .i64 0, .int .i64 0, .int .i64 0, .int .i64 0], 32, .struct [(0, 3), (1, 3), (2, 3), (3, 3)]⟩
theorem tok150 : TOK Try.prog 150 ti150 := ⟨by kernel_rfl, by kernel_rfl⟩
def ti151 : TI := ⟨4, [.int .i64 0, .int .i64 0, .int .i64 0, .int .i64 0], 32, .struct [(0, 3), (1, 3), (2, 3), (3, 3)]⟩
theorem tok151 : TOK Try.prog 151 ti151 := ⟨by kernel_rfl, by kernel_rfl⟩
def ti152 : TI := ⟨1, [.slice none 0 0], 24, .slice 154⟩
theorem tok152 : TOK Try.prog 152 ti152 := ⟨by kernel_rfl, by kernel_rfl⟩
def ti153 : TI := ⟨2, [.int .i64 0, .slice none 0 0], 32, .struct [(0, 3), (1, 43)]⟩
theorem tok153 : TOK Try.prog 153 ti153 := ⟨by kernel_rfl, by kernel_rfl⟩
def ti154 : TI := ⟨2, [.int .i64 0, .slice none 0 0], 32, .struct [(0, 3), (1, 43)]⟩
theorem tok154 : TOK Try.prog 154 ti154 := ⟨by kernel_rfl, by kernel_rfl⟩
def ti156 : TI := ⟨1, [.nilFunc], 8, .plain⟩
theorem tok156 : TOK Try.prog 156 ti156 := ⟨by kernel_rfl, by kernel_rfl⟩
def ti157 : TI := ⟨4, [.int .i64 0, .int .i64 0, .int .i64 0, .bool false], 32, .struct [(0, 3), (1, 3), (2, 3), (3, 4)]⟩
theorem tok157 : TOK Try.prog 157 ti157 := ⟨by kernel_rfl, by kernel_rfl⟩
def ti158 : TI := ⟨4, [.int .i64 0, .int .i64 0, .int .i64 0, .bool false], 32, .struct [(0, 3), (1, 3), (2, 3), (3, 4)]⟩
theorem tok158 : TOK Try.prog 158 ti158 := ⟨by kernel_rfl, by kernel_rfl⟩
def ti159 : TI := ⟨4, [.slice none 0 0, .int .i64 0, .slice none 0 0, .slice none 0 0], 80, .struct [(0, 107), (2, 43), (3, 43)]⟩
theorem tok159 : TOK Try.prog 159 ti159 := ⟨by kernel_rfl, by kernel_rfl⟩
def ti160 : TI := ⟨4, [.slice none 0 0, .int .i64 0, .slice none 0 0, .slice none 0 0], 80, .struct [(0, 107), (2, 43), (3, 43)]⟩
theorem tok160 : TOK Try.prog 160 ti160 := ⟨by kernel_rfl, by kernel_rfl⟩
def ti161 : TI := ⟨1, [.nilFunc], 8, .plain⟩
theorem tok161 : TOK Try.prog 161 ti161 := ⟨by kernel_rfl, by kernel_rfl⟩
def ti162 : TI := ⟨1, [.nilFunc], 8, .plain⟩
theorem tok162 : TOK Try.prog 162 ti162 := ⟨by kernel_rfl, by kernel_rfl⟩
def ti163 : TI := ⟨1, [.nilFunc], 8, .plain⟩
theorem tok163 : TOK Try.prog 163 ti163 := ⟨by kernel_rfl, by kernel_rfl⟩
def ti164 : TI := ⟨1, [.nilFunc], 8, .plain⟩
theorem tok164 : TOK Try.prog 164 ti164 := ⟨by kernel_rfl, by kernel_rfl⟩
def ti165 : TI := ⟨1, [.nilFunc], 8, .plain⟩
theorem tok165 : TOK Try.prog 165 ti165 := ⟨by kernel_rfl, by kernel_rfl⟩
def ti166 : TI := ⟨1, [.nilFunc], 8, .plain⟩
theorem tok166 : TOK Try.prog 166 ti166 := ⟨by kernel_rfl, by kernel_rfl⟩
def ti167 : TI := ⟨1, [.nilFunc], 8, .plain⟩
theorem tok167 : TOK Try.prog 167 ti167 := ⟨by kernel_rfl, by kernel_rfl⟩
def ti168 : TI := ⟨1, [.slice none 0 0], 24, .slice 28⟩
theorem tok168 : TOK Try.prog 168 ti168 := ⟨by kernel_rfl, by kernel_rfl⟩
def ti169 : TI := ⟨1, [.map none], 8, .plain⟩
theorem tok169 : TOK Try.prog 169 ti169 := ⟨by kernel_rfl, by kernel_rfl⟩
def ti170 : TI := ⟨1, [.nilFunc], 8, .plain⟩
theorem tok170 : TOK Try.prog 170 ti170 := ⟨by kernel_rfl, by kernel_rfl⟩
def ti171 : TI := ⟨1, [.nilFunc], 8, .plain⟩
theorem tok171 : TOK Try.prog 171 ti171 := ⟨by kernel_rfl, by kernel_rfl⟩
def ti172 : TI := ⟨1, [.nilFunc], 8, .plain⟩
theorem tok172 : TOK Try.prog 172 ti172 := ⟨by kernel_rfl, by kernel_rfl⟩
def ti173 : TI := ⟨1, [.nilFunc], 8, .plain⟩
theorem tok173 : TOK Try.prog 173 ti173 := ⟨by kernel_rfl, by kernel_rfl⟩
def ti174 : TI := ⟨1, [.nilFunc], 8, .plain⟩
theorem tok174 : TOK Try.prog 174 ti174 := ⟨by kernel_rfl, by kernel_rfl⟩
def ti175 : TI := ⟨1, [.nilFunc], 8, .plain⟩
theorem tok175 : TOK Try.prog 175 ti175 := ⟨by kernel_rfl, by kernel_rfl⟩
def ti176 : TI := ⟨1, [.nilFunc], 8, .plain⟩
theorem tok176 : TOK Try.prog 176 ti176 := ⟨by kernel_rfl, by kernel_rfl⟩
def ti177 : TI := ⟨1, [.nilFunc], 8, .plain⟩
theorem tok177 : TOK Try.prog 177 ti177 := ⟨by kernel_rfl, by kernel_rfl⟩
def ti178 : TI := ⟨1, [.slice none 0 0], 24, .slice 192⟩
theorem tok178 : TOK Try.prog 178 ti178 := ⟨by kernel_rfl, by kernel_rfl⟩
def ti179 : TI := ⟨1, [.nilFunc], 8, .plain⟩
theorem tok179 : TOK Try.prog 179 ti179 := ⟨by kernel_rfl, by kernel_rfl⟩
def ti180 : TI := ⟨1, [.nilFunc], 8, .plain⟩
theorem tok180 : TOK Try.prog 180 ti180 := ⟨by kernel_rfl, by kernel_rfl⟩
def ti181 : TI := ⟨1, [.nilFunc], 8, .plain⟩
theorem tok181 : TOK Try.prog 181 ti181 := ⟨by kernel_rfl, by kernel_rfl⟩
def ti182 : TI := ⟨4, [.slice none 0 0, .int .i64 0, .slice none 0 0, .slice none 0 0], 80, .struct [(0, 100), (3, 152)]⟩
theorem tok182 : TOK Try.prog 182 ti182 := ⟨by kernel_rfl, by kernel_rfl⟩
def ti183 : TI := ⟨4, [.slice none 0 0, .int .i64 0, .slice none 0 0, .slice none 0 0], 80, .struct [(0, 100), (3, 152)]⟩
theorem tok183 : TOK Try.prog 183 ti183 := ⟨by kernel_rfl, by kernel_rfl⟩
def ti184 : TI := ⟨1, [.nilFunc], 8, .plain⟩
theorem tok184 : TOK Try.prog 184 ti184 := ⟨by kernel_rfl, by kernel_rfl⟩
def ti185 : TI := ⟨1, [.nilFunc], 8, .plain⟩
theorem tok185 : TOK Try.prog 185 ti185 := ⟨by kernel_rfl, by kernel_rfl⟩
def ti186 : TI := ⟨1, [.nilFunc], 8, .plain⟩
theorem tok186 : TOK Try.prog 186 ti186 := ⟨by kernel_rfl, by kernel_rfl⟩
def ti187 : TI := ⟨1, [.nilFunc], 8, .plain⟩
theorem tok187 : TOK Try.prog 187 ti187 := ⟨by kernel_rfl, by kernel_rfl⟩
def ti188 : TI := ⟨1, [.nilFunc], 8, .plain⟩
theorem tok188 : TOK Try.prog 188 ti188 := ⟨by kernel_rfl, by kernel_rfl⟩
def ti189 : TI := ⟨1, [.nilFunc], 8, .plain⟩
theorem tok189 : TOK Try.prog 189 ti189 := ⟨by kernel_rfl, by kernel_rfl⟩
def ti190 : TI := ⟨1, [.nilFunc], 8, .plain⟩
theorem tok190 : TOK Try.prog 190 ti190 := ⟨by kernel_rfl, by kernel_rfl⟩
def ti191 : TI := ⟨2, [.int .u8 0, .nilFunc], 16, .struct [(0, 5), (1, 190)]⟩
theorem tok191 : TOK Try.prog 191 ti191 := ⟨by kernel_rfl, by kernel_rfl⟩
def ti192 : TI := ⟨2, [.int .u8 0, .nilFunc], 16, .struct [(0, 5), (1, 190)]⟩
theorem tok192 : TOK Try.prog 192 ti192 := ⟨by kernel_rfl, by kernel_rfl⟩
def ti193 : TI := ⟨1, [.nilFunc], 8, .plain⟩
theorem tok193 : TOK Try.prog 193 ti193 := ⟨by kernel_rfl, by kernel_rfl⟩
def ti194 : TI := ⟨1, [.nilFunc], 8, .plain⟩
theorem tok194 : TOK Try.prog 194 ti194 := ⟨by kernel_rfl, by kernel_rfl⟩
def ti195 : TI := ⟨1, [.nilFunc], 8, .plain⟩
theorem tok195 : TOK Try.prog 195 ti195 := ⟨by kernel_rfl, by kernel_rfl⟩
def ti196 : TI := ⟨1, [.nilFunc], 8, .plain⟩
theorem tok196 : TOK Try.prog 196 ti196 := ⟨by kernel_rfl, by kernel_rfl⟩
def ti197 : TI := ⟨1, [.nilFunc], 8, .plain⟩
theorem tok197 : TOK Try.prog 197 ti197 := ⟨by kernel_rfl, by kernel_rfl⟩
def ti198 : TI := ⟨1, [.nilFunc], 8, .plain⟩
theorem tok198 : TOK Try.prog 198 ti198 := ⟨by kernel_rfl, by kernel_rfl⟩
def ti199 : TI := ⟨1, [.nilFunc], 8, .plain⟩
theorem tok199 : TOK Try.prog 199 ti199 := ⟨by kernel_rfl, by kernel_rfl⟩
def ti200 : TI := ⟨1, [.int .u64 0], 8, .int .u64⟩
theorem tok200 : TOK Try.prog 200 ti200 := ⟨by kernel_rfl, by kernel_rfl⟩
def ti201 : TI := ⟨2, [.int .i64 0, .int .i64 0], 16, .arr 2 3⟩
theorem tok201 : TOK Try.prog 201 ti201 := ⟨by kernel_rfl, by kernel_rfl⟩
def ti202 : TI := ⟨1, [.nilFunc], 8, .plain⟩
theorem tok202 : TOK Try.prog 202 ti202 := ⟨by kernel_rfl, by kernel_rfl⟩
def ti203 : TI := ⟨1, [.nilFunc], 8, .plain⟩
theorem tok203 : TOK Try.prog 203 ti203 := ⟨by kernel_rfl, by kernel_rfl⟩
def ti204 : TI := ⟨1, [.nilFunc], 8, .plain⟩
theorem tok204 : TOK Try.prog 204 ti204 := ⟨by kernel_rfl, by kernel_rfl⟩
def ti205 : TI := ⟨1, [.nilFunc], 8, .plain⟩
theorem tok205 : TOK Try.prog 205 ti205 := ⟨by kernel_rfl, by kernel_rfl⟩
def ti206 : TI := ⟨1, [.nilFunc], 8, .plain⟩
theorem tok206 : TOK Try.prog 206 ti206 := ⟨by kernel_rfl, by kernel_rfl⟩
def ti207 : TI := ⟨1, [.nilFunc], 8, .plain⟩
theorem tok207 : TOK Try.prog 207 ti207 := ⟨by kernel_rfl, by kernel_rfl⟩
def ti208 : TI := ⟨1, [.nilFunc], 8, .plain⟩
theorem tok208 : TOK Try.prog 208 ti208 := ⟨by kernel_rfl, by kernel_rfl⟩
def ti209 : TI := ⟨4, [.pointer none, .pointer none, .pointer none, .string ByteArray.empty], 40, .struct [(0, 17), (1, 17), (2, 17), (3, 9)]⟩
theorem tok209 : TOK Try.prog 209 ti209 := ⟨by kernel_rfl, by kernel_rfl⟩
def ti210 : TI := ⟨4, [.pointer none, .pointer none, .pointer none, .string ByteArray.empty], 40, .struct [(0, 17), (1, 17), (2, 17), (3, 9)]⟩
theorem tok210 : TOK Try.prog 210 ti210 := ⟨by kernel_rfl, by kernel_rfl⟩
def ti211 : TI := ⟨0, [], 0, .arr 0 16⟩
theorem tok211 : TOK Try.prog 211 ti211 := ⟨by kernel_rfl, by kernel_rfl⟩
def ti212 : TI := ⟨0, [], 0, .struct [(0, 211)]⟩
theorem tok212 : TOK Try.prog 212 ti212 := ⟨by kernel_rfl, by kernel_rfl⟩
def ti213 : TI := ⟨0, [], 0, .struct [(0, 211)]⟩
theorem tok213 : TOK Try.prog 213 ti213 := ⟨by kernel_rfl, by kernel_rfl⟩
def ti214 : TI := ⟨1, [.nilFunc], 8, .plain⟩
theorem tok214 : TOK Try.prog 214 ti214 := ⟨by kernel_rfl, by kernel_rfl⟩
def ti215 : TI := ⟨1, [.int .u32 0], 4, .int .u32⟩
theorem tok215 : TOK Try.prog 215 ti215 := ⟨by kernel_rfl, by kernel_rfl⟩
def ti216 : TI := ⟨1, [.int .u8 0], 1, .int .u8⟩
theorem tok216 : TOK Try.prog 216 ti216 := ⟨by kernel_rfl, by kernel_rfl⟩
def ti217 : TI := ⟨1, [.int .u8 0], 1, .int .u8⟩
theorem tok217 : TOK Try.prog 217 ti217 := ⟨by kernel_rfl, by kernel_rfl⟩
def ti218 : TI := ⟨1, [.nilFunc], 8, .plain⟩
theorem tok218 : TOK Try.prog 218 ti218 := ⟨by kernel_rfl, by kernel_rfl⟩
def ti219 : TI := ⟨1, [.pointer none], 8, .plain⟩
theorem tok219 : TOK Try.prog 219 ti219 := ⟨by kernel_rfl, by kernel_rfl⟩
def ti220 : TI := ⟨1, [.int .i32 0], 4, .int .i32⟩
theorem tok220 : TOK Try.prog 220 ti220 := ⟨by kernel_rfl, by kernel_rfl⟩
def ti221 : TI := ⟨1, [.int .i32 0], 4, .int .i32⟩
theorem tok221 : TOK Try.prog 221 ti221 := ⟨by kernel_rfl, by kernel_rfl⟩
def ti222 : TI := ⟨11, [.int .u64 0, .int .u64 0, .int .u32 0, .int .u8 0, .int .u8 0, .int .u8 0, .int .u8 0, .nilFunc, .pointer none, .int .i32 0, .int .i32 0], 48, .struct [(0, 12), (1, 12), (2, 215), (3, 216), (4, 5), (5, 5), (6, 217), (7, 218), (8, 219), (9, 220), (10, 221)]⟩
theorem tok222 : TOK Try.prog 222 ti222 := ⟨by kernel_rfl, by kernel_rfl⟩
def ti223 : TI := ⟨11, [.int .u64 0, .int .u64 0, .int .u32 0, .int .u8 0, .int .u8 0, .int .u8 0, .int .u8 0, .nilFunc, .pointer none, .int .i32 0, .int .i32 0], 48, .struct [(0, 12), (1, 12), (2, 215), (3, 216), (4, 5), (5, 5), (6, 217), (7, 218), (8, 219), (9, 220), (10, 221)]⟩
theorem tok223 : TOK Try.prog 223 ti223 := ⟨by kernel_rfl, by kernel_rfl⟩
def ti224 : TI := ⟨1, [.pointer none], 8, .plain⟩
theorem tok224 : TOK Try.prog 224 ti224 := ⟨by kernel_rfl, by kernel_rfl⟩
def tys : List (Nat × TI) := [(1, ti1), (2, ti2), (3, ti3), (4, ti4), (5, ti5), (6, ti6), (7, ti7), (8, ti8), (9, ti9), (10, ti10), (11, ti11), (12, ti12), (13, ti13), (14, ti14), (15, ti15), (16, ti16), (17, ti17), (18, ti18), (19, ti19), (21, ti21), (22, ti22), (23, ti23), (24, ti24), (25, ti25), (26, ti26), (27, ti27), (28, ti28), (29, ti29), (31, ti31), (32, ti32), (33, ti33), (34, ti34), (35, ti35), (36, ti36), (37, ti37), (38, ti38), (39, ti39), (40, ti40), (41, ti41), (42, ti42), (43, ti43), (44, ti44), (46, ti46), (47, ti47), (48, ti48), (49, ti49), (50, ti50), (51, ti51), (52, ti52), (53, ti53), (54, ti54), (55, ti55), (56, ti56), (57, ti57), (58, ti58), (59, ti59), (60, ti60), (61, ti61), (62, ti62), (63, ti63), (65, ti65), (66, ti66), (67, ti67), (68, ti68), (69, ti69), (70, ti70), (71, ti71), (72, ti72), (73, ti73), (74, ti74), (75, ti75), (77, ti77), (78, ti78), (79, ti79), (80, ti80), (81, ti81), (82, ti82), (83, ti83), (84, ti84), (85, ti85), (86, ti86), (87, ti87), (88, ti88), (89, ti89), (90, ti90), (91, ti91), (93, ti93), (94, ti94), (95, ti95), (96, ti96), (97, ti97), (98, ti98), (99, ti99), (100, ti100), (102, ti102), (103, ti103), (104, ti104), (105, ti105), (106, ti106), (107, ti107), (108, ti108), (110, ti110), (111, ti111), (112, ti112), (113, ti113), (114, ti114), (115, ti115), (116, ti116), (117, ti117), (118, ti118), (119, ti119), (120, ti120), (121, ti121), (122, ti122), (124, ti124), (125, ti125), (126, ti126), (127, ti127), (128, ti128), (129, ti129), (130, ti130), (131, ti131), (132, ti132), (133, ti133), (134, ti134), (135, ti135), (136, ti136), (137, ti137), (138, ti138), (139, ti139), (140, ti140), (141, ti141), (142, ti142), (143, ti143), (144, ti144), (145, ti145), (146, ti146), (147, ti147), (148, ti148), (149, ti149), (150, ti150), (151, ti151), (152, ti152), (153, ti153), (154, ti154), (156, ti156), (157, ti157), (158, ti158), (159, ti159), (160, ti160), (161, ti161), (162, ti162), (163, ti163), (164, ti164), (165, ti165), (166, ti166), (167, ti167), (168, ti168), (169, ti169), (170, ti170), (171, ti171), (172, ti172), (173, ti173), (174, ti174), (175, ti175), (176, ti176), (177, ti177), (178, ti178), (179, ti179), (180, ti180), (181, ti181), (182, ti182), (183, ti183), (184, ti184), (185, ti185), (186, ti186), (187, ti187), (188, ti188), (189, ti189), (190, ti190), (191, ti191), (192, ti192), (193, ti193), (194, ti194), (195, ti195), (196, ti196), (197, ti197), (198, ti198), (199, ti199), (200, ti200), (201, ti201), (202, ti202), (203, ti203), (204, ti204), (205, ti205), (206, ti206), (207, ti207), (208, ti208), (209, ti209), (210, ti210), (211, ti211), (212, ti212), (213, ti213), (214, ti214), (215, ti215), (216, ti216), (217, ti217), (218, ti218), (219, ti219), (220, ti220), (221, ti221), (222, ti222), (223, ti223), (224, ti224)]
theorem tys_ok : AllT Try.prog tys := ⟨tok1, tok2, tok3, tok4, tok5, tok6, tok7, tok8, tok9, tok10, tok11, tok12, tok13, tok14, tok15, tok16, tok17, tok18, tok19, tok21, tok22, tok23, tok24, tok25, tok26, tok27, tok28, tok29, tok31, tok32, tok33, tok34, tok35, tok36, tok37, tok38, tok39, tok40, tok41, tok42, tok43, tok44, tok46, tok47, tok48, tok49, tok50, tok51, tok52, tok53, tok54, tok55, tok56, tok57, tok58, tok59, tok60, tok61, tok62, tok63, tok65, tok66, tok67, tok68, tok69, tok70, tok71, tok72, tok73, tok74, tok75, tok77, tok78, tok79, tok80, tok81, tok82, tok83, tok84, tok85, tok86, tok87, tok88, tok89, tok90, tok91, tok93, tok94, tok95, tok96, tok97, tok98, tok99, tok100, tok102, tok103, tok104, tok105, tok106, tok107, tok108, tok110, tok111, tok112, tok113, tok114, tok115, tok116, tok117, tok118, tok119, tok120, tok121, tok122, tok124, tok125, tok126, tok127, tok128, tok129, tok130, tok131, tok132, tok133, tok134, tok135, tok136, tok137, tok138, tok139, tok140, tok141, tok142, tok143, tok144, tok145, tok146, tok147, tok148, tok149, tok150, tok151, tok152, tok153, tok154, tok156, tok157, tok158, tok159, tok160, tok161, tok162, tok163, tok164, tok165, tok166, tok167, tok168, tok169, tok170, tok171, tok172, tok173, tok174, tok175, tok176, tok177, tok178, tok179, tok180, tok181, tok182, tok183, tok184, tok185, tok186, tok187, tok188, tok189, tok190, tok191, tok192, tok193, tok194, tok195, tok196, tok197, tok198, tok199, tok200, tok201, tok202, tok203, tok204, tok205, tok206, tok207, tok208, tok209, tok210, tok211, tok212, tok213, tok214, tok215, tok216, tok217, tok218, tok219, tok220, tok221, tok222, tok223, tok224, trivial⟩
theorem fok3 (args : Array Value) (w : World) : (callFunc 3 args).run Try.prog w = .ok (.enter 3 args) w := callFunc_in Try.func3 (by kernel_rfl) (by kernel_rfl) args w
theorem fok4 (args : Array Value) (w : World) : (callFunc 4 args).run Try.prog w = .ok (.enter 4 args) w := callFunc_in Try.func4 (by kernel_rfl) (by kernel_rfl) args w
theorem fok5 (args : Array Value) (w : World) : (callFunc 5 args).run Try.prog w = .ok (.enter 5 args) w := callFunc_in Try.func5 (by kernel_rfl) (by kernel_rfl) args w
theorem fok6 (args : Array Value) (w : World) : (callFunc 6 args).run Try.prog w = .ok (.enter 6 args) w := callFunc_in Try.func6 (by kernel_rfl) (by kernel_rfl) args w
theorem fok7 (args : Array Value) (w : World) : (callFunc 7 args).run Try.prog w = .ok (.enter 7 args) w := callFunc_in Try.func7 (by kernel_rfl) (by kernel_rfl) args w
theorem fok8 (args : Array Value) (w : World) : (callFunc 8 args).run Try.prog w = .ok (.enter 8 args) w := callFunc_in Try.func8 (by kernel_rfl) (by kernel_rfl) args w
theorem fok9 (args : Array Value) (w : World) : (callFunc 9 args).run Try.prog w = .ok (.enter 9 args) w := callFunc_in Try.func9 (by kernel_rfl) (by kernel_rfl) args w
theorem fok10 (args : Array Value) (w : World) : (callFunc 10 args).run Try.prog w = .ok (.enter 10 args) w := callFunc_in Try.func10 (by kernel_rfl) (by kernel_rfl) args w
theorem fok11 (args : Array Value) (w : World) : (callFunc 11 args).run Try.prog w = .ok (.enter 11 args) w := callFunc_in Try.func11 (by kernel_rfl) (by kernel_rfl) args w
theorem fok12 (args : Array Value) (w : World) : (callFunc 12 args).run Try.prog w = .ok (.enter 12 args) w := callFunc_in Try.func12 (by kernel_rfl) (by kernel_rfl) args w
theorem fok13 (args : Array Value) (w : World) : (callFunc 13 args).run Try.prog w = .ok (.enter 13 args) w := callFunc_in Try.func13 (by kernel_rfl) (by kernel_rfl) args w
theorem fok14 (args : Array Value) (w : World) : (callFunc 14 args).run Try.prog w = .ok (.enter 14 args) w := callFunc_in Try.func14 (by kernel_rfl) (by kernel_rfl) args w
theorem fok15 (args : Array Value) (w : World) : (callFunc 15 args).run Try.prog w = .ok (.enter 15 args) w := callFunc_in Try.func15 (by kernel_rfl) (by kernel_rfl) args w
theorem fok16 (args : Array Value) (w : World) : (callFunc 16 args).run Try.prog w = .ok (.enter 16 args) w := callFunc_in Try.func16 (by kernel_rfl) (by kernel_rfl) args w
theorem fok17 (args : Array Value) (w : World) : (callFunc 17 args).run Try.prog w = .ok (.enter 17 args) w := callFunc_in Try.func17 (by kernel_rfl) (by kernel_rfl) args w
theorem fok18 (args : Array Value) (w : World) : (callFunc 18 args).run Try.prog w = .ok (.enter 18 args) w := callFunc_in Try.func18 (by kernel_rfl) (by kernel_rfl) args w
theorem fok19 (args : Array Value) (w : World) : (callFunc 19 args).run Try.prog w = .ok (.enter 19 args) w := callFunc_in Try.func19 (by kernel_rfl) (by kernel_rfl) args w
theorem fok20 (args : Array Value) (w : World) : (callFunc 20 args).run Try.prog w = .ok (.enter 20 args) w := callFunc_in Try.func20 (by kernel_rfl) (by kernel_rfl) args w
theorem fok21 (args : Array Value) (w : World) : (callFunc 21 args).run Try.prog w = .ok (.enter 21 args) w := callFunc_in Try.func21 (by kernel_rfl) (by kernel_rfl) args w
theorem fok22 (args : Array Value) (w : World) : (callFunc 22 args).run Try.prog w = .ok (.enter 22 args) w := callFunc_in Try.func22 (by kernel_rfl) (by kernel_rfl) args w
theorem fok23 (args : Array Value) (w : World) : (callFunc 23 args).run Try.prog w = .ok (.enter 23 args) w := callFunc_in Try.func23 (by kernel_rfl) (by kernel_rfl) args w
theorem fok24 (args : Array Value) (w : World) : (callFunc 24 args).run Try.prog w = .ok (.enter 24 args) w := callFunc_in Try.func24 (by kernel_rfl) (by kernel_rfl) args w
theorem fok25 (args : Array Value) (w : World) : (callFunc 25 args).run Try.prog w = .ok (.enter 25 args) w := callFunc_in Try.func25 (by kernel_rfl) (by kernel_rfl) args w
theorem fok26 (args : Array Value) (w : World) : (callFunc 26 args).run Try.prog w = .ok (.enter 26 args) w := callFunc_in Try.func26 (by kernel_rfl) (by kernel_rfl) args w
theorem fok27 (args : Array Value) (w : World) : (callFunc 27 args).run Try.prog w = .ok (.enter 27 args) w := callFunc_in Try.func27 (by kernel_rfl) (by kernel_rfl) args w
theorem fok28 (args : Array Value) (w : World) : (callFunc 28 args).run Try.prog w = .ok (.enter 28 args) w := callFunc_in Try.func28 (by kernel_rfl) (by kernel_rfl) args w
theorem fok29 (args : Array Value) (w : World) : (callFunc 29 args).run Try.prog w = .ok (.enter 29 args) w := callFunc_in Try.func29 (by kernel_rfl) (by kernel_rfl) args w
theorem fok30 (args : Array Value) (w : World) : (callFunc 30 args).run Try.prog w = .ok (.enter 30 args) w := callFunc_in Try.func30 (by kernel_rfl) (by kernel_rfl) args w
theorem fok31 (args : Array Value) (w : World) : (callFunc 31 args).run Try.prog w = .ok (.enter 31 args) w := callFunc_in Try.func31 (by kernel_rfl) (by kernel_rfl) args w
theorem fok32 (args : Array Value) (w : World) : (callFunc 32 args).run Try.prog w = .ok (.enter 32 args) w := callFunc_in Try.func32 (by kernel_rfl) (by kernel_rfl) args w
theorem fok33 (args : Array Value) (w : World) : (callFunc 33 args).run Try.prog w = .ok (.enter 33 args) w := callFunc_in Try.func33 (by kernel_rfl) (by kernel_rfl) args w
theorem fok34 (args : Array Value) (w : World) : (callFunc 34 args).run Try.prog w = .ok (.enter 34 args) w := callFunc_in Try.func34 (by kernel_rfl) (by kernel_rfl) args w
theorem fok35 (args : Array Value) (w : World) : (callFunc 35 args).run Try.prog w = .ok (.enter 35 args) w := callFunc_in Try.func35 (by kernel_rfl) (by kernel_rfl) args w
theorem fok36 (args : Array Value) (w : World) : (callFunc 36 args).run Try.prog w = .ok (.enter 36 args) w := callFunc_in Try.func36 (by kernel_rfl) (by kernel_rfl) args w
theorem fok37 (args : Array Value) (w : World) : (callFunc 37 args).run Try.prog w = .ok (.enter 37 args) w := callFunc_in Try.func37 (by kernel_rfl) (by kernel_rfl) args w
theorem fok38 (args : Array Value) (w : World) : (callFunc 38 args).run Try.prog w = .ok (.enter 38 args) w := callFunc_in Try.func38 (by kernel_rfl) (by kernel_rfl) args w
theorem fok39 (args : Array Value) (w : World) : (callFunc 39 args).run Try.prog w = .ok (.enter 39 args) w := callFunc_in Try.func39 (by kernel_rfl) (by kernel_rfl) args w
theorem fok40 (args : Array Value) (w : World) : (callFunc 40 args).run Try.prog w = .ok (.enter 40 args) w := callFunc_in Try.func40 (by kernel_rfl) (by kernel_rfl) args w
theorem fok41 (args : Array Value) (w : World) : (callFunc 41 args).run Try.prog w = .ok (.enter 41 args) w := callFunc_in Try.func41 (by kernel_rfl) (by kernel_rfl) args w
theorem fok42 (args : Array Value) (w : World) : (callFunc 42 args).run Try.prog w = .ok (.enter 42 args) w := callFunc_in Try.func42 (by kernel_rfl) (by kernel_rfl) args w
theorem fok43 (args : Array Value) (w : World) : (callFunc 43 args).run Try.prog w = .ok (.enter 43 args) w := callFunc_in Try.func43 (by kernel_rfl) (by kernel_rfl) args w
theorem fok44 (args : Array Value) (w : World) : (callFunc 44 args).run Try.prog w = .ok (.enter 44 args) w := callFunc_in Try.func44 (by kernel_rfl) (by kernel_rfl) args w
theorem fok45 (args : Array Value) (w : World) : (callFunc 45 args).run Try.prog w = .ok (.enter 45 args) w := callFunc_in Try.func45 (by kernel_rfl) (by kernel_rfl) args w
theorem fok46 (args : Array Value) (w : World) : (callFunc 46 args).run Try.prog w = .ok (.enter 46 args) w := callFunc_in Try.func46 (by kernel_rfl) (by kernel_rfl) args w
theorem fok47 (args : Array Value) (w : World) : (callFunc 47 args).run Try.prog w = .ok (.enter 47 args) w := callFunc_in Try.func47 (by kernel_rfl) (by kernel_rfl) args w
theorem fok48 (args : Array Value) (w : World) : (callFunc 48 args).run Try.prog w = .ok (.enter 48 args) w := callFunc_in Try.func48 (by kernel_rfl) (by kernel_rfl) args w
theorem fok49 (args : Array Value) (w : World) : (callFunc 49 args).run Try.prog w = .ok (.enter 49 args) w := callFunc_in Try.func49 (by kernel_rfl) (by kernel_rfl) args w
theorem fok50 (args : Array Value) (w : World) : (callFunc 50 args).run Try.prog w = .ok (.enter 50 args) w := callFunc_in Try.func50 (by kernel_rfl) (by kernel_rfl) args w
theorem fok51 (args : Array Value) (w : World) : (callFunc 51 args).run Try.prog w = .ok (.enter 51 args) w := callFunc_in Try.func51 (by kernel_rfl) (by kernel_rfl) args w
theorem fok52 (args : Array Value) (w : World) : (callFunc 52 args).run Try.prog w = .ok (.enter 52 args) w := callFunc_in Try.func52 (by kernel_rfl) (by kernel_rfl) args w
theorem fok53 (args : Array Value) (w : World) : (callFunc 53 args).run Try.prog w = .ok (.enter 53 args) w := callFunc_in Try.func53 (by kernel_rfl) (by kernel_rfl) args w
theorem fok54 (args : Array Value) (w : World) : (callFunc 54 args).run Try.prog w = .ok (.enter 54 args) w := callFunc_in Try.func54 (by kernel_rfl) (by kernel_rfl) args w
theorem fok55 (args : Array Value) (w : World) : (callFunc 55 args).run Try.prog w = .ok (.enter 55 args) w := callFunc_in Try.func55 (by kernel_rfl) (by kernel_rfl) args w
theorem fok56 (args : Array Value) (w : World) : (callFunc 56 args).run Try.prog w = .ok (.enter 56 args) w := callFunc_in Try.func56 (by kernel_rfl) (by kernel_rfl) args w
theorem fok57 (args : Array Value) (w : World) : (callFunc 57 args).run Try.prog w = .ok (.enter 57 args) w := callFunc_in Try.func57 (by kernel_rfl) (by kernel_rfl) args w
theorem fok58 (args : Array Value) (w : World) : (callFunc 58 args).run Try.prog w = .ok (.enter 58 args) w := callFunc_in Try.func58 (by kernel_rfl) (by kernel_rfl) args w
theorem fok59 (args : Array Value) (w : World) : (callFunc 59 args).run Try.prog w = .ok (.enter 59 args) w := callFunc_in Try.func59 (by kernel_rfl) (by kernel_rfl) args w
theorem fok60 (args : Array Value) (w : World) : (callFunc 60 args).run Try.prog w = .ok (.enter 60 args) w := callFunc_in Try.func60 (by kernel_rfl) (by kernel_rfl) args w
theorem fok61 (args : Array Value) (w : World) : (callFunc 61 args).run Try.prog w = .ok (.enter 61 args) w := callFunc_in Try.func61 (by kernel_rfl) (by kernel_rfl) args w
theorem fok62 (args : Array Value) (w : World) : (callFunc 62 args).run Try.prog w = .ok (.enter 62 args) w := callFunc_in Try.func62 (by kernel_rfl) (by kernel_rfl) args w
theorem fok63 (args : Array Value) (w : World) : (callFunc 63 args).run Try.prog w = .ok (.enter 63 args) w := callFunc_in Try.func63 (by kernel_rfl) (by kernel_rfl) args w
theorem fok64 (args : Array Value) (w : World) : (callFunc 64 args).run Try.prog w = .ok (.enter 64 args) w := callFunc_in Try.func64 (by kernel_rfl) (by kernel_rfl) args w
theorem fok65 (args : Array Value) (w : World) : (callFunc 65 args).run Try.prog w = .ok (.enter 65 args) w := callFunc_in Try.func65 (by kernel_rfl) (by kernel_rfl) args w
theorem fok66 (args : Array Value) (w : World) : (callFunc 66 args).run Try.prog w = .ok (.enter 66 args) w := callFunc_in Try.func66 (by kernel_rfl) (by kernel_rfl) args w
theorem fok67 (args : Array Value) (w : World) : (callFunc 67 args).run Try.prog w = .ok (.enter 67 args) w := callFunc_in Try.func67 (by kernel_rfl) (by kernel_rfl) args w
theorem fok68 (args : Array Value) (w : World) : (callFunc 68 args).run Try.prog w = .ok (.enter 68 args) w := callFunc_in Try.func68 (by kernel_rfl) (by kernel_rfl) args w
theorem fok69 (args : Array Value) (w : World) : (callFunc 69 args).run Try.prog w = .ok (.enter 69 args) w := callFunc_in Try.func69 (by kernel_rfl) (by kernel_rfl) args w
theorem fok70 (args : Array Value) (w : World) : (callFunc 70 args).run Try.prog w = .ok (.enter 70 args) w := callFunc_in Try.func70 (by kernel_rfl) (by kernel_rfl) args w
theorem fok71 (args : Array Value) (w : World) : (callFunc 71 args).run Try.prog w = .ok (.enter 71 args) w := callFunc_in Try.func71 (by kernel_rfl) (by kernel_rfl) args w
theorem fok72 (args : Array Value) (w : World) : (callFunc 72 args).run Try.prog w = .ok (.enter 72 args) w := callFunc_in Try.func72 (by kernel_rfl) (by kernel_rfl) args w
theorem fok73 (args : Array Value) (w : World) : (callFunc 73 args).run Try.prog w = .ok (.enter 73 args) w := callFunc_in Try.func73 (by kernel_rfl) (by kernel_rfl) args w
theorem fok74 (args : Array Value) (w : World) : (callFunc 74 args).run Try.prog w = .ok (.enter 74 args) w := callFunc_in Try.func74 (by kernel_rfl) (by kernel_rfl) args w
theorem fok75 (args : Array Value) (w : World) : (callFunc 75 args).run Try.prog w = .ok (.enter 75 args) w := callFunc_in Try.func75 (by kernel_rfl) (by kernel_rfl) args w
theorem fok76 (args : Array Value) (w : World) : (callFunc 76 args).run Try.prog w = .ok (.enter 76 args) w := callFunc_in Try.func76 (by kernel_rfl) (by kernel_rfl) args w
theorem fok77 (args : Array Value) (w : World) : (callFunc 77 args).run Try.prog w = .ok (.enter 77 args) w := callFunc_in Try.func77 (by kernel_rfl) (by kernel_rfl) args w
theorem fok78 (args : Array Value) (w : World) : (callFunc 78 args).run Try.prog w = .ok (.enter 78 args) w := callFunc_in Try.func78 (by kernel_rfl) (by kernel_rfl) args w
theorem fok79 (args : Array Value) (w : World) : (callFunc 79 args).run Try.prog w = .ok (.enter 79 args) w := callFunc_in Try.func79 (by kernel_rfl) (by kernel_rfl) args w
theorem fok80 (args : Array Value) (w : World) : (callFunc 80 args).run Try.prog w = .ok (.enter 80 args) w := callFunc_in Try.func80 (by kernel_rfl) (by kernel_rfl) args w
theorem fok81 (args : Array Value) (w : World) : (callFunc 81 args).run Try.prog w = .ok (.enter 81 args) w := callFunc_in Try.func81 (by kernel_rfl) (by kernel_rfl) args w
theorem fok82 (args : Array Value) (w : World) : (callFunc 82 args).run Try.prog w = .ok (.enter 82 args) w := callFunc_in Try.func82 (by kernel_rfl) (by kernel_rfl) args w
theorem fok83 (args : Array Value) (w : World) : (callFunc 83 args).run Try.prog w = .ok (.enter 83 args) w := callFunc_in Try.func83 (by kernel_rfl) (by kernel_rfl) args w
theorem fok84 (args : Array Value) (w : World) : (callFunc 84 args).run Try.prog w = .ok (.enter 84 args) w := callFunc_in Try.func84 (by kernel_rfl) (by kernel_rfl) args w
theorem fok85 (args : Array Value) (w : World) : (callFunc 85 args).run Try.prog w = .ok (.enter 85 args) w := callFunc_in Try.func85 (by kernel_rfl) (by kernel_rfl) args w
theorem fok86 (args : Array Value) (w : World) : (callFunc 86 args).run Try.prog w = .ok (.enter 86 args) w := callFunc_in Try.func86 (by kernel_rfl) (by kernel_rfl) args w
theorem fok87 (args : Array Value) (w : World) : (callFunc 87 args).run Try.prog w = .ok (.enter 87 args) w := callFunc_in Try.func87 (by kernel_rfl) (by kernel_rfl) args w
theorem fok88 (args : Array Value) (w : World) : (callFunc 88 args).run Try.prog w = .ok (.enter 88 args) w := callFunc_in Try.func88 (by kernel_rfl) (by kernel_rfl) args w
theorem fok89 (args : Array Value) (w : World) : (callFunc 89 args).run Try.prog w = .ok (.enter 89 args) w := callFunc_in Try.func89 (by kernel_rfl) (by kernel_rfl) args w
theorem fok90 (args : Array Value) (w : World) : (callFunc 90 args).run Try.prog w = .ok (.enter 90 args) w := callFunc_in Try.func90 (by kernel_rfl) (by kernel_rfl) args w
theorem fok91 (args : Array Value) (w : World) : (callFunc 91 args).run Try.prog w = .ok (.enter 91 args) w := callFunc_in Try.func91 (by kernel_rfl) (by kernel_rfl) args w
theorem fok92 (args : Array Value) (w : World) : (callFunc 92 args).run Try.prog w = .ok (.enter 92 args) w := callFunc_in Try.func92 (by kernel_rfl) (by kernel_rfl) args w
theorem fok93 (args : Array Value) (w : World) : (callFunc 93 args).run Try.prog w = .ok (.enter 93 args) w := callFunc_in Try.func93 (by kernel_rfl) (by kernel_rfl) args w
theorem fok94 (args : Array Value) (w : World) : (callFunc 94 args).run Try.prog w = .ok (.enter 94 args) w := callFunc_in Try.func94 (by kernel_rfl) (by kernel_rfl) args w
theorem fok95 (args : Array Value) (w : World) : (callFunc 95 args).run Try.prog w = .ok (.enter 95 args) w := callFunc_in Try.func95 (by kernel_rfl) (by kernel_rfl) args w
theorem fok96 (args : Array Value) (w : World) : (callFunc 96 args).run Try.prog w = .ok (.enter 96 args) w := callFunc_in Try.func96 (by kernel_rfl) (by kernel_rfl) args w
theorem fok97 (args : Array Value) (w : World) : (callFunc 97 args).run Try.prog w = .ok (.enter 97 args) w := callFunc_in Try.func97 (by kernel_rfl) (by kernel_rfl) args w
theorem fok98 (args : Array Value) (w : World) : (callFunc 98 args).run Try.prog w = .ok (.enter 98 args) w := callFunc_in Try.func98 (by kernel_rfl) (by kernel_rfl) args w
theorem fok99 (args : Array Value) (w : World) : (callFunc 99 args).run Try.prog w = .ok (.enter 99 args) w := callFunc_in Try.func99 (by kernel_rfl) (by kernel_rfl) args w
theorem fok100 (args : Array Value) (w : World) : (callFunc 100 args).run Try.prog w = .ok (.enter 100 args) w := callFunc_in Try.func100 (by kernel_rfl) (by kernel_rfl) args w
theorem fok101 (args : Array Value) (w : World) : (callFunc 101 args).run Try.prog w = .ok (.enter 101 args) w := callFunc_in Try.func101 (by kernel_rfl) (by kernel_rfl) args w
theorem fok102 (args : Array Value) (w : World) : (callFunc 102 args).run Try.prog w = .ok (.enter 102 args) w := callFunc_in Try.func102 (by kernel_rfl) (by kernel_rfl) args w
theorem fok103 (args : Array Value) (w : World) : (callFunc 103 args).run Try.prog w = .ok (.enter 103 args) w := callFunc_in Try.func103 (by kernel_rfl) (by kernel_rfl) args w
theorem fok104 (args : Array Value) (w : World) : (callFunc 104 args).run Try.prog w = .ok (.enter 104 args) w := callFunc_in Try.func104 (by kernel_rfl) (by kernel_rfl) args w
theorem fok105 (args : Array Value) (w : World) : (callFunc 105 args).run Try.prog w = .ok (.enter 105 args) w := callFunc_in Try.func105 (by kernel_rfl) (by kernel_rfl) args w
theorem fok106 (args : Array Value) (w : World) : (callFunc 106 args).run Try.prog w = .ok (.enter 106 args) w := callFunc_in Try.func106 (by kernel_rfl) (by kernel_rfl) args w
theorem fok107 (args : Array Value) (w : World) : (callFunc 107 args).run Try.prog w = .ok (.enter 107 args) w := callFunc_in Try.func107 (by kernel_rfl) (by kernel_rfl) args w
theorem fok108 (args : Array Value) (w : World) : (callFunc 108 args).run Try.prog w = .ok (.enter 108 args) w := callFunc_in Try.func108 (by kernel_rfl) (by kernel_rfl) args w
theorem fok109 (args : Array Value) (w : World) : (callFunc 109 args).run Try.prog w = .ok (.enter 109 args) w := callFunc_in Try.func109 (by kernel_rfl) (by kernel_rfl) args w
theorem fok110 (args : Array Value) (w : World) : (callFunc 110 args).run Try.prog w = .ok (.enter 110 args) w := callFunc_in Try.func110 (by kernel_rfl) (by kernel_rfl) args w
theorem fok111 (args : Array Value) (w : World) : (callFunc 111 args).run Try.prog w = .ok (.enter 111 args) w := callFunc_in Try.func111 (by kernel_rfl) (by kernel_rfl) args w
theorem fok112 (args : Array Value) (w : World) : (callFunc 112 args).run Try.prog w = .ok (.enter 112 args) w := callFunc_in Try.func112 (by kernel_rfl) (by kernel_rfl) args w
theorem fok113 (args : Array Value) (w : World) : (callFunc 113 args).run Try.prog w = .ok (.enter 113 args) w := callFunc_in Try.func113 (by kernel_rfl) (by kernel_rfl) args w
theorem fok114 (args : Array Value) (w : World) : (callFunc 114 args).run Try.prog w = .ok (.enter 114 args) w := callFunc_in Try.func114 (by kernel_rfl) (by kernel_rfl) args w
theorem fok115 (args : Array Value) (w : World) : (callFunc 115 args).run Try.prog w = .ok (.enter 115 args) w := callFunc_in Try.func115 (by kernel_rfl) (by kernel_rfl) args w
theorem fok116 (args : Array Value) (w : World) : (callFunc 116 args).run Try.prog w = .ok (.enter 116 args) w := callFunc_in Try.func116 (by kernel_rfl) (by kernel_rfl) args w
theorem fok117 (args : Array Value) (w : World) : (callFunc 117 args).run Try.prog w = .ok (.enter 117 args) w := callFunc_in Try.func117 (by kernel_rfl) (by kernel_rfl) args w
theorem fok118 (args : Array Value) (w : World) : (callFunc 118 args).run Try.prog w = .ok (.enter 118 args) w := callFunc_in Try.func118 (by kernel_rfl) (by kernel_rfl) args w
theorem fok119 (args : Array Value) (w : World) : (callFunc 119 args).run Try.prog w = .ok (.enter 119 args) w := callFunc_in Try.func119 (by kernel_rfl) (by kernel_rfl) args w
theorem fok120 (args : Array Value) (w : World) : (callFunc 120 args).run Try.prog w = .ok (.enter 120 args) w := callFunc_in Try.func120 (by kernel_rfl) (by kernel_rfl) args w
theorem fok121 (args : Array Value) (w : World) : (callFunc 121 args).run Try.prog w = .ok (.enter 121 args) w := callFunc_in Try.func121 (by kernel_rfl) (by kernel_rfl) args w
theorem fok122 (args : Array Value) (w : World) : (callFunc 122 args).run Try.prog w = .ok (.enter 122 args) w := callFunc_in Try.func122 (by kernel_rfl) (by kernel_rfl) args w
theorem fok123 (args : Array Value) (w : World) : (callFunc 123 args).run Try.prog w = .ok (.enter 123 args) w := callFunc_in Try.func123 (by kernel_rfl) (by kernel_rfl) args w
theorem fok124 (args : Array Value) (w : World) : (callFunc 124 args).run Try.prog w = .ok (.enter 124 args) w := callFunc_in Try.func124 (by kernel_rfl) (by kernel_rfl) args w
theorem fok125 (args : Array Value) (w : World) : (callFunc 125 args).run Try.prog w = .ok (.enter 125 args) w := callFunc_in Try.func125 (by kernel_rfl) (by kernel_rfl) args w
theorem fok126 (args : Array Value) (w : World) : (callFunc 126 args).run Try.prog w = .ok (.enter 126 args) w := callFunc_in Try.func126 (by kernel_rfl) (by kernel_rfl) args w
theorem fok127 (args : Array Value) (w : World) : (callFunc 127 args).run Try.prog w = .ok (.enter 127 args) w := callFunc_in Try.func127 (by kernel_rfl) (by kernel_rfl) args w
theorem fok128 (args : Array Value) (w : World) : (callFunc 128 args).run Try.prog w = .ok (.enter 128 args) w := callFunc_in Try.func128 (by kernel_rfl) (by kernel_rfl) args w
theorem fok129 (args : Array Value) (w : World) : (callFunc 129 args).run Try.prog w = .ok (.enter 129 args) w := callFunc_in Try.func129 (by kernel_rfl) (by kernel_rfl) args w
theorem fok130 (args : Array Value) (w : World) : (callFunc 130 args).run Try.prog w = .ok (.enter 130 args) w := callFunc_in Try.func130 (by kernel_rfl) (by kernel_rfl) args w
theorem fok131 (args : Array Value) (w : World) : (callFunc 131 args).run Try.prog w = .ok (.enter 131 args) w := callFunc_in Try.func131 (by kernel_rfl) (by kernel_rfl) args w
theorem fok132 (args : Array Value) (w : World) : (callFunc 132 args).run Try.prog w = .ok (.enter 132 args) w := callFunc_in Try.func132 (by kernel_rfl) (by kernel_rfl) args w
theorem fok133 (args : Array Value) (w : World) : (callFunc 133 args).run Try.prog w = .ok (.enter 133 args) w := callFunc_in Try.func133 (by kernel_rfl) (by kernel_rfl) args w
theorem fok134 (args : Array Value) (w : World) : (callFunc 134 args).run Try.prog w = .ok (.enter 134 args) w := callFunc_in Try.func134 (by kernel_rfl) (by kernel_rfl) args w
theorem fok135 (args : Array Value) (w : World) : (callFunc 135 args).run Try.prog w = .ok (.enter 135 args) w := callFunc_in Try.func135 (by kernel_rfl) (by kernel_rfl) args w
theorem fok136 (args : Array Value) (w : World) : (callFunc 136 args).run Try.prog w = .ok (.enter 136 args) w := callFunc_in Try.func136 (by kernel_rfl) (by kernel_rfl) args w
theorem fok137 (args : Array Value) (w : World) : (callFunc 137 args).run Try.prog w = .ok (.enter 137 args) w := callFunc_in Try.func137 (by kernel_rfl) (by kernel_rfl) args w
theorem fok138 (args : Array Value) (w : World) : (callFunc 138 args).run Try.prog w = .ok (.enter 138 args) w := callFunc_in Try.func138 (by kernel_rfl) (by kernel_rfl) args w
theorem fok139 (args : Array Value) (w : World) : (callFunc 139 args).run Try.prog w = .ok (.enter 139 args) w := callFunc_in Try.func139 (by kernel_rfl) (by kernel_rfl) args w
theorem fok140 (args : Array Value) (w : World) : (callFunc 140 args).run Try.prog w = .ok (.enter 140 args) w := callFunc_in Try.func140 (by kernel_rfl) (by kernel_rfl) args w
theorem fok141 (args : Array Value) (w : World) : (callFunc 141 args).run Try.prog w = .ok (.enter 141 args) w := callFunc_in Try.func141 (by kernel_rfl) (by kernel_rfl) args w
theorem fok142 (args : Array Value) (w : World) : (callFunc 142 args).run Try.prog w = .ok (.enter 142 args) w := callFunc_in Try.func142 (by kernel_rfl) (by kernel_rfl) args w
theorem fok143 (args : Array Value) (w : World) : (callFunc 143 args).run Try.prog w = .ok (.enter 143 args) w := callFunc_in Try.func143 (by kernel_rfl) (by kernel_rfl) args w
theorem fok144 (args : Array Value) (w : World) : (callFunc 144 args).run Try.prog w = .ok (.enter 144 args) w := callFunc_in Try.func144 (by kernel_rfl) (by kernel_rfl) args w
theorem fok145 (args : Array Value) (w : World) : (callFunc 145 args).run Try.prog w = .ok (.enter 145 args) w := callFunc_in Try.func145 (by kernel_rfl) (by kernel_rfl) args w
theorem fok146 (args : Array Value) (w : World) : (callFunc 146 args).run Try.prog w = .ok (.enter 146 args) w := callFunc_in Try.func146 (by kernel_rfl) (by kernel_rfl) args w
theorem fok147 (args : Array Value) (w : World) : (callFunc 147 args).run Try.prog w = .ok (.enter 147 args) w := callFunc_in Try.func147 (by kernel_rfl) (by kernel_rfl) args w
theorem fok148 (args : Array Value) (w : World) : (callFunc 148 args).run Try.prog w = .ok (.enter 148 args) w := callFunc_in Try.func148 (by kernel_rfl) (by kernel_rfl) args w
theorem fok149 (args : Array Value) (w : World) : (callFunc 149 args).run Try.prog w = .ok (.enter 149 args) w := callFunc_in Try.func149 (by kernel_rfl) (by kernel_rfl) args w
theorem fok150 (args : Array Value) (w : World) : (callFunc 150 args).run Try.prog w = .ok (.enter 150 args) w := callFunc_in Try.func150 (by kernel_rfl) (by kernel_rfl) args w
theorem fok151 (args : Array Value) (w : World) : (callFunc 151 args).run Try.prog w = .ok (.enter 151 args) w := callFunc_in Try.func151 (by kernel_rfl) (by kernel_rfl) args w
theorem fok152 (args : Array Value) (w : World) : (callFunc 152 args).run Try.prog w = .ok (.enter 152 args) w := callFunc_in Try.func152 (by kernel_rfl) (by kernel_rfl) args w
theorem fok153 (args : Array Value) (w : World) : (callFunc 153 args).run Try.prog w = .ok (.enter 153 args) w := callFunc_in Try.func153 (by kernel_rfl) (by kernel_rfl) args w
theorem fok154 (args : Array Value) (w : World) : (callFunc 154 args).run Try.prog w = .ok (.enter 154 args) w := callFunc_in Try.func154 (by kernel_rfl) (by kernel_rfl) args w
theorem fok155 (args : Array Value) (w : World) : (callFunc 155 args).run Try.prog w = .ok (.enter 155 args) w := callFunc_in Try.func155 (by kernel_rfl) (by kernel_rfl) args w
theorem fok156 (args : Array Value) (w : World) : (callFunc 156 args).run Try.prog w = .ok (.enter 156 args) w := callFunc_in Try.func156 (by kernel_rfl) (by kernel_rfl) args w
theorem fok157 (args : Array Value) (w : World) : (callFunc 157 args).run Try.prog w = .ok (.enter 157 args) w := callFunc_in Try.func157 (by kernel_rfl) (by kernel_rfl) args w
theorem fok158 (args : Array Value) (w : World) : (callFunc 158 args).run Try.prog w = .ok (.enter 158 args) w := callFunc_in Try.func158 (by kernel_rfl) (by kernel_rfl) args w
theorem fok159 (args : Array Value) (w : World) : (callFunc 159 args).run Try.prog w = .ok (.enter 159 args) w := callFunc_in Try.func159 (by kernel_rfl) (by kernel_rfl) args w
theorem fok160 (args : Array Value) (w : World) : (callFunc 160 args).run Try.prog w = .ok (.enter 160 args) w := callFunc_in Try.func160 (by kernel_rfl) (by kernel_rfl) args w
theorem fok161 (args : Array Value) (w : World) : (callFunc 161 args).run Try.prog w = .ok (.enter 161 args) w := callFunc_in Try.func161 (by kernel_rfl) (by kernel_rfl) args w
theorem fok162 (args : Array Value) (w : World) : (callFunc 162 args).run Try.prog w = .ok (.enter 162 args) w := callFunc_in Try.func162 (by kernel_rfl) (by kernel_rfl) args w
theorem fok163 (args : Array Value) (w : World) : (callFunc 163 args).run Try.prog w = .ok (.enter 163 args) w := callFunc_in Try.func163 (by kernel_rfl) (by kernel_rfl) args w
theorem fok164 (args : Array Value) (w : World) : (callFunc 164 args).run Try.prog w = .ok (.enter 164 args) w := callFunc_in Try.func164 (by kernel_rfl) (by kernel_rfl) args w
theorem fok165 (args : Array Value) (w : World) : (callFunc 165 args).run Try.prog w = .ok (.enter 165 args) w := callFunc_in Try.func165 (by kernel_rfl) (by kernel_rfl) args w
theorem fok166 (args : Array Value) (w : World) : (callFunc 166 args).run Try.prog w = .ok (.enter 166 args) w := callFunc_in Try.func166 (by kernel_rfl) (by kernel_rfl) args w
theorem fok167 (args : Array Value) (w : World) : (callFunc 167 args).run Try.prog w = .ok (.enter 167 args) w := callFunc_in Try.func167 (by kernel_rfl) (by kernel_rfl) args w
theorem fok168 (args : Array Value) (w : World) : (callFunc 168 args).run Try.prog w = .ok (.enter 168 args) w := callFunc_in Try.func168 (by kernel_rfl) (by kernel_rfl) args w
theorem fok169 (args : Array Value) (w : World) : (callFunc 169 args).run Try.prog w = .ok (.enter 169 args) w := callFunc_in Try.func169 (by kernel_rfl) (by kernel_rfl) args w
theorem fok170 (args : Array Value) (w : World) : (callFunc 170 args).run Try.prog w = .ok (.enter 170 args) w := callFunc_in Try.func170 (by kernel_rfl) (by kernel_rfl) args w
theorem fok171 (args : Array Value) (w : World) : (callFunc 171 args).run Try.prog w = .ok (.enter 171 args) w := callFunc_in Try.func171 (by kernel_rfl) (by kernel_rfl) args w
theorem fok172 (args : Array Value) (w : World) : (callFunc 172 args).run Try.prog w = .ok (.enter 172 args) w := callFunc_in Try.func172 (by kernel_rfl) (by kernel_rfl) args w
theorem fok173 (args : Array Value) (w : World) : (callFunc 173 args).run Try.prog w = .ok (.enter 173 args) w := callFunc_in Try.func173 (by kernel_rfl) (by kernel_rfl) args w
theorem fok174 (args : Array Value) (w : World) : (callFunc 174 args).run Try.prog w = .ok (.enter 174 args) w := callFunc_in Try.func174 (by kernel_rfl) (by kernel_rfl) args w
theorem fok175 (args : Array Value) (w : World) : (callFunc 175 args).run Try.prog w = .ok (.enter 175 args) w := callFunc_in Try.func175 (by kernel_rfl) (by kernel_rfl) args w
theorem fok176 (args : Array Value) (w : World) : (callFunc 176 args).run Try.prog w = .ok (.enter 176 args) w := callFunc_in Try.func176 (by kernel_rfl) (by kernel_rfl) args w
theorem fok177 (args : Array Value) (w : World) : (callFunc 177 args).run Try.prog w = .ok (.enter 177 args) w := callFunc_in Try.func177 (by kernel_rfl) (by kernel_rfl) args w
theorem fok178 (args : Array Value) (w : World) : (callFunc 178 args).run Try.prog w = .ok (.enter 178 args) w := callFunc_in Try.func178 (by kernel_rfl) (by kernel_rfl) args w
theorem fok179 (args : Array Value) (w : World) : (callFunc 179 args).run Try.prog w = .ok (.enter 179 args) w := callFunc_in Try.func179 (by kernel_rfl) (by kernel_rfl) args w
theorem fok180 (args : Array Value) (w : World) : (callFunc 180 args).run Try.prog w = .ok (.enter 180 args) w := callFunc_in Try.func180 (by kernel_rfl) (by kernel_rfl) args w
theorem fok181 (args : Array Value) (w : World) : (callFunc 181 args).run Try.prog w = .ok (.enter 181 args) w := callFunc_in Try.func181 (by kernel_rfl) (by kernel_rfl) args w
def fns : List Nat := [3, 4, 5, 6, 7, 8, 9, 10, 11, 12, 13, 14, 15, 16, 17, 18, 19, 20, 21, 22, 23, 24, 25, 26, 27, 28, 29, 30, 31, 32, 33, 34, 35, 36, 37, 38, 39, 40, 41, 42, 43, 44, 45, 46, 47, 48, 49, 50, 51, 52, 53, 54, 55, 56, 57, 58, 59, 60, 61, 62, 63, 64, 65, 66, 67, 68, 69, 70, 71, 72, 73, 74, 75, 76, 77, 78, 79, 80, 81, 82, 83, 84, 85, 86, 87, 88, 89, 90, 91, 92, 93, 94, 95, 96, 97, 98, 99, 100, 101, 102, 103, 104, 105, 106, 107, 108, 109, 110, 111, 112, 113, 114, 115, 116, 117, 118, 119, 120, 121, 122, 123, 124, 125, 126, 127, 128, 129, 130, 131, 132, 133, 134, 135, 136, 137, 138, 139, 140, 141, 142, 143, 144, 145, 146, 147, 148, 149, 150, 151, 152, 153, 154, 155, 156, 157, 158, 159, 160, 161, 162, 163, 164, 165, 166, 167, 168, 169, 170, 171, 172, 173, 174, 175, 176, 177, 178, 179, 180, 181]
theorem fns_ok : AllF Try.prog fns := ⟨fok3, fok4, fok5, fok6, fok7, fok8, fok9, fok10, fok11, fok12, fok13, fok14, fok15, fok16, fok17, fok18, fok19, fok20, fok21, fok22, fok23, fok24, fok25, fok26, fok27, fok28, fok29, fok30, fok31, fok32, fok33, fok34, fok35, fok36, fok37, fok38, fok39, fok40, fok41, fok42, fok43, fok44, fok45, fok46, fok47, fok48, fok49, fok50, fok51, fok52, fok53, fok54, fok55, fok56, fok57, fok58, fok59, fok60, fok61, fok62, fok63, fok64, fok65, fok66, fok67, fok68, fok69, fok70, fok71, fok72, fok73, fok74, fok75, fok76, fok77, fok78, fok79, fok80, fok81, fok82, fok83, fok84, fok85, fok86, fok87, fok88, fok89, fok90, fok91, fok92, fok93, fok94, fok95, fok96, fok97, fok98, fok99, fok100, fok101, fok102, fok103, fok104, fok105, fok106, fok107, fok108, fok109, fok110, fok111, fok112, fok113, fok114, fok115, fok116, fok117, fok118, fok119, fok120, fok121, fok122, fok123, fok124, fok125, fok126, fok127, fok128, fok129, fok130, fok131, fok132, fok133, fok134, fok135, fok136, fok137, fok138, fok139, fok140, fok141, fok142, fok143, fok144, fok145, fok146, fok147, fok148, fok149, fok150, fok151, fok152, fok153, fok154, fok155, fok156, fok157, fok158, fok159, fok160, fok161, fok162, fok163, fok164, fok165, fok166, fok167, fok168, fok169, fok170, fok171, fok172, fok173, fok174, fok175, fok176, fok177, fok178, fok179, fok180, fok181, trivial⟩
def env : Env Try.prog := Env.of tys tys_ok fns fns_ok
theorem mixed : Try.prog.follows .mixedOrders = true := by kernel_rfl
noncomputable def body16 : Code := Try.f16.body.getD .skip
theorem has16 : Try.f16.body = some body16 := by kernel_rfl
noncomputable def body17 : Code := Try.f17.body.getD .skip
theorem has17 : Try.f17.body = some body17 := by kernel_rfl
noncomputable def body20 : Code := Try.f20.body.getD .skip
theorem has20 : Try.f20.body = some body20 := by kernel_rfl
noncomputable def body21 : Code := Try.f21.body.getD .skip
theorem has21 : Try.f21.body = some body21 := by kernel_rfl
noncomputable def body22 : Code := Try.f22.body.getD .skip
theorem has22 : Try.f22.body = some body22 := by kernel_rfl
noncomputable def body37 : Code := Try.f37.body.getD .skip
theorem has37 : Try.f37.body = some body37 := by kernel_rfl
noncomputable def body52 : Code := Try.f52.body.getD .skip
theorem has52 : Try.f52.body = some body52 := by kernel_rfl
noncomputable def body53 : Code := Try.f53.body.getD .skip
theorem has53 : Try.f53.body = some body53 := by kernel_rfl
noncomputable def body54 : Code := Try.f54.body.getD .skip
theorem has54 : Try.f54.body = some body54 := by kernel_rfl
noncomputable def body55 : Code := Try.f55.body.getD .skip
theorem has55 : Try.f55.body = some body55 := by kernel_rfl
noncomputable def body56 : Code := Try.f56.body.getD .skip
theorem has56 : Try.f56.body = some body56 := by kernel_rfl
noncomputable def body57 : Code := Try.f57.body.getD .skip
theorem has57 : Try.f57.body = some body57 := by kernel_rfl
noncomputable def body58 : Code := Try.f58.body.getD .skip
theorem has58 : Try.f58.body = some body58 := by kernel_rfl
noncomputable def body59 : Code := Try.f59.body.getD .skip
theorem has59 : Try.f59.body = some body59 := by kernel_rfl
noncomputable def body60 : Code := Try.f60.body.getD .skip
theorem has60 : Try.f60.body = some body60 := by kernel_rfl
noncomputable def body61 : Code := Try.f61.body.getD .skip
theorem has61 : Try.f61.body = some body61 := by kernel_rfl
noncomputable def body62 : Code := Try.f62.body.getD .skip
theorem has62 : Try.f62.body = some body62 := by kernel_rfl
noncomputable def body69 : Code := Try.f69.body.getD .skip
theorem has69 : Try.f69.body = some body69 := by kernel_rfl
noncomputable def body70 : Code := Try.f70.body.getD .skip
theorem has70 : Try.f70.body = some body70 := by kernel_rfl
noncomputable def body71 : Code := Try.f71.body.getD .skip
theorem has71 : Try.f71.body = some body71 := by kernel_rfl
noncomputable def body72 : Code := Try.f72.body.getD .skip
theorem has72 : Try.f72.body = some body72 := by kernel_rfl
noncomputable def body79 : Code := Try.f79.body.getD .skip
theorem has79 : Try.f79.body = some body79 := by kernel_rfl
noncomputable def body83 : Code := Try.f83.body.getD .skip
theorem has83 : Try.f83.body = some body83 := by kernel_rfl
noncomputable def body91 : Code := Try.f91.body.getD .skip
theorem has91 : Try.f91.body = some body91 := by kernel_rfl
noncomputable def body92 : Code := Try.f92.body.getD .skip
theorem has92 : Try.f92.body = some body92 := by kernel_rfl
noncomputable def body93 : Code := Try.f93.body.getD .skip
theorem has93 : Try.f93.body = some body93 := by kernel_rfl
noncomputable def body94 : Code := Try.f94.body.getD .skip
theorem has94 : Try.f94.body = some body94 := by kernel_rfl
noncomputable def body95 : Code := Try.f95.body.getD .skip
theorem has95 : Try.f95.body = some body95 := by kernel_rfl
noncomputable def body96 : Code := Try.f96.body.getD .skip
theorem has96 : Try.f96.body = some body96 := by kernel_rfl
noncomputable def body97 : Code := Try.f97.body.getD .skip
theorem has97 : Try.f97.body = some body97 := by kernel_rfl
noncomputable def body98 : Code := Try.f98.body.getD .skip
theorem has98 : Try.f98.body = some body98 := by kernel_rfl
noncomputable def body99 : Code := Try.f99.body.getD .skip
theorem has99 : Try.f99.body = some body99 := by kernel_rfl
noncomputable def body100 : Code := Try.f100.body.getD .skip
theorem has100 : Try.f100.body = some body100 := by kernel_rfl
noncomputable def body101 : Code := Try.f101.body.getD .skip
theorem has101 : Try.f101.body = some body101 := by kernel_rfl
noncomputable def body102 : Code := Try.f102.body.getD .skip
theorem has102 : Try.f102.body = some body102 := by kernel_rfl
noncomputable def body106 : Code := Try.f106.body.getD .skip
theorem has106 : Try.f106.body = some body106 := by kernel_rfl
noncomputable def body107 : Code := Try.f107.body.getD .skip
theorem has107 : Try.f107.body = some body107 := by kernel_rfl
noncomputable def body108 : Code := Try.f108.body.getD .skip
theorem has108 : Try.f108.body = some body108 := by kernel_rfl
noncomputable def body109 : Code := Try.f109.body.getD .skip
theorem has109 : Try.f109.body = some body109 := by kernel_rfl
noncomputable def body112 : Code := Try.f112.body.getD .skip
theorem has112 : Try.f112.body = some body112 := by kernel_rfl
noncomputable def body113 : Code := Try.f113.body.getD .skip
theorem has113 : Try.f113.body = some body113 := by kernel_rfl
noncomputable def body114 : Code := Try.f114.body.getD .skip
theorem has114 : Try.f114.body = some body114 := by kernel_rfl
noncomputable def body115 : Code := Try.f115.body.getD .skip
theorem has115 : Try.f115.body = some body115 := by kernel_rfl
noncomputable def body133 : Code := Try.f133.body.getD .skip
theorem has133 : Try.f133.body = some body133 := by kernel_rfl
noncomputable def body134 : Code := Try.f134.body.getD .skip
theorem has134 : Try.f134.body = some body134 := by kernel_rfl
noncomputable def body135 : Code := Try.f135.body.getD .skip
theorem has135 : Try.f135.body = some body135 := by kernel_rfl
noncomputable def body136 : Code := Try.f136.body.getD .skip
theorem has136 : Try.f136.body = some body136 := by kernel_rfl
noncomputable def body137 : Code := Try.f137.body.getD .skip
theorem has137 : Try.f137.body = some body137 := by kernel_rfl
noncomputable def body138 : Code := Try.f138.body.getD .skip
theorem has138 : Try.f138.body = some body138 := by kernel_rfl
noncomputable def body139 : Code := Try.f139.body.getD .skip
theorem has139 : Try.f139.body = some body139 := by kernel_rfl
noncomputable def body140 : Code := Try.f140.body.getD .skip
theorem has140 : Try.f140.body = some body140 := by kernel_rfl
noncomputable def body141 : Code := Try.f141.body.getD .skip
theorem has141 : Try.f141.body = some body141 := by kernel_rfl
noncomputable def body142 : Code := Try.f142.body.getD .skip
theorem has142 : Try.f142.body = some body142 := by kernel_rfl
noncomputable def body143 : Code := Try.f143.body.getD .skip
theorem has143 : Try.f143.body = some body143 := by kernel_rfl
noncomputable def body144 : Code := Try.f144.body.getD .skip
theorem has144 : Try.f144.body = some body144 := by kernel_rfl
noncomputable def body145 : Code := Try.f145.body.getD .skip
theorem has145 : Try.f145.body = some body145 := by kernel_rfl
noncomputable def body146 : Code := Try.f146.body.getD .skip
theorem has146 : Try.f146.body = some body146 := by kernel_rfl
noncomputable def body147 : Code := Try.f147.body.getD .skip
theorem has147 : Try.f147.body = some body147 := by kernel_rfl
noncomputable def body148 : Code := Try.f148.body.getD .skip
theorem has148 : Try.f148.body = some body148 := by kernel_rfl
noncomputable def body149 : Code := Try.f149.body.getD .skip
theorem has149 : Try.f149.body = some body149 := by kernel_rfl
noncomputable def body150 : Code := Try.f150.body.getD .skip
theorem has150 : Try.f150.body = some body150 := by kernel_rfl
noncomputable def body151 : Code := Try.f151.body.getD .skip
theorem has151 : Try.f151.body = some body151 := by kernel_rfl
noncomputable def body152 : Code := Try.f152.body.getD .skip
theorem has152 : Try.f152.body = some body152 := by kernel_rfl
noncomputable def body153 : Code := Try.f153.body.getD .skip
theorem has153 : Try.f153.body = some body153 := by kernel_rfl
noncomputable def body154 : Code := Try.f154.body.getD .skip
theorem has154 : Try.f154.body = some body154 := by kernel_rfl
noncomputable def body156 : Code := Try.f156.body.getD .skip
theorem has156 : Try.f156.body = some body156 := by kernel_rfl
noncomputable def body163 : Code := Try.f163.body.getD .skip
theorem has163 : Try.f163.body = some body163 := by kernel_rfl
noncomputable def body164 : Code := Try.f164.body.getD .skip
theorem has164 : Try.f164.body = some body164 := by kernel_rfl
noncomputable def body165 : Code := Try.f165.body.getD .skip
theorem has165 : Try.f165.body = some body165 := by kernel_rfl
noncomputable def body166 : Code := Try.f166.body.getD .skip
theorem has166 : Try.f166.body = some body166 := by kernel_rfl
noncomputable def body167 : Code := Try.f167.body.getD .skip
theorem has167 : Try.f167.body = some body167 := by kernel_rfl
end Go.Proofs.Ythfabodamhdhaaa
namespace Go.Proofs.Ythfabodamhdhaaa.Tx
open Go Go.RowKit
set_option linter.unusedSimpArgs false
set_option linter.unusedVariables false
theorem idxS {P : Program} (T : Env P) {dst : Option Tmp} {ty : TypeId} {pos : String} {after : Array Edge} {gd : Option (Nat × Bool)} {gs : List Nat} {σ : Sg} {K : Ef → Prop} {KF : Option KT} {t e n : Nat} {x ix : Operand} {s0 s : SV} {k : IntKind} {z : Int}
 {sz : Nat} {zr : List Value} {by_ : Nat} {ti : TI} (hx : gv σ x = some s0) (hix : gv σ ix = some (.v (.int k z))) (ht : T.ty t = some ⟨sz, zr, by_, .arr n e⟩) (he : T.ty e = some ti) (h01 : 0 ≤ z ∧ z < n)
 (hag : s0.isAgg = true) (hlen : ((s0.cells.drop (z.toNat * ti.size)).take ti.size).length = ti.size)
 (hs : (ti.kind.agg = true ∧ s = .agg ((s0.cells.drop (z.toNat * ti.size)).take ti.size)) ∨ (ti.kind.agg = false ∧ (s0.cells.drop (z.toNat * ti.size)).take ti.size = [s]))
 (hB : efB σ ⟨s, [], [], gs ++ (os x ++ os ix), []⟩ = true) (hK : K ⟨s, [], [], gs ++ (os x ++ os ix), []⟩) : OpEvS P ⟨dst, .index t x ix, ty, pos, after, gd⟩ gs σ K KF := by
 refine .mk _ hB (fun k hk => by simp [hk]) rfl (runOK_pure fun β a w hss => ?_) hK
 have e1 := gv_eval hss hx (fun k hk => by simp [hk])
 have e2 := gv_eval hss hix (fun k hk => by simp [hk])
 have hu := under_arr (T.tok t _ ht) rfl
 have hsz := (T.tok e ti he).run_sizeOf w
 obtain ⟨cs, hcs, hcs'⟩ : ∃ cs : List Value, s0.c β = .agg cs.toArray ∧ SV.cs β s0.cells = cs := by
  cases s0 with
  | agg l => exact ⟨_, rfl, rfl⟩
  | v v =>
   cases v with
   | agg c => exact ⟨c.toList, rfl, by simp only [SV.cells]; exact cs_v β _⟩
   | _ => cases hag
  | _ => cases hag
 have hp := run_part (P := P) (T.tok e ti he) (cs := cs) (off := z.toNat * ti.size) (w := w) (β := β) (l := (s0.cells.drop (z.toNat * ti.size)).take ti.size) (s := s)
  (by rw [← hcs', SV.cs_eq, SV.cs_eq, List.map_take, List.map_drop]) hlen hs
 simp only [execOp, Instr.index, e1, e2, hcs, SV.c, asIntOf, Sem.run_bind, Sem.run_pure, Result.andThen_ok, Go.run_underlying hu w, h01.1, h01.2, and_self, if_true, hsz, hp]
end Go.Proofs.Ythfabodamhdhaaa.Tx
namespace Go.Proofs.Ythfabodamhdhaaa.Tx
open Go Go.RowKit
set_option linter.unusedSimpArgs false
set_option linter.unusedVariables false
end Go.Proofs.Ythfabodamhdhaaa.Tx
namespace Go.Proofs.Ythfabodamhdhaaa.Tx
open Go Go.RowKit
set_option linter.unusedSimpArgs false
set_option linter.unusedVariables false
theorem mkO {P : Program} (T : Env P) {dst : Option Tmp} {ty : TypeId} {pos : String} {after : Array Edge} {gd : Option (Nat × Bool)} {gs : List Nat} {σ : Sg} {K : Ef → Prop} {KF : Option KT} {t e : Nat} {x : Operand} (nb m : Nat) (xs : List Value)
 {sz : Nat} {zr : List Value} {by_ : Nat} {ti : TI} (hx : gv σ x = some (.v (iv m))) (ht : T.ty t = some ⟨sz, zr, by_, .slice e⟩) (he : T.ty e = some ti)
 (h01 : 0 < ti.size) (h03 : ti.zero.length = ti.size) (hm : m ≤ 100) (hby : ti.bytes ≤ 100000) (hxs : xs = (List.replicate m ti.zero).flatten)
 (hB : efB σ ⟨.os nb (nb + 1) m, [nb, nb + 1], [(nb, .own (nb + 1) m ti.size xs e)], gs ++ os x, []⟩ = true) (hK : K ⟨.os nb (nb + 1) m, [nb, nb + 1], [(nb, .own (nb + 1) m ti.size xs e)], gs ++ os x, []⟩) :
 OpEvS P ⟨dst, .makeSlice t x x, ty, pos, after, gd⟩ gs σ K KF := by
 subst hxs
 refine .mk _ hB (fun k hk => by simp [hk]) rfl (fun β a w hss => ?_) hK
 have e1 := gv_eval hss hx (fun k hk => by simp [hk])
 have hzl : ((List.replicate m ti.zero).flatten).length = m * ti.size := by
  simp [List.length_flatten, h03]
 refine ⟨fun j => if j = nb then w.heap.size else if j = nb + 1 then m else β j, w.alloc (.cells ((List.replicate m ti.zero).flatten).toArray e), ⟨fun i hi => ?_, ⟨rfl, rfl, rfl, by show w.heap.size ≤ (w.heap.push _).size; rw [Array.size_push]; omega, fun b hb _ => ?_⟩, fun i bk hi => ?_, fun i hi hL => ?_, fun i hi j hj hL hL' hne => ?_⟩, .inl ?_⟩
 · simp only [List.mem_cons, List.not_mem_nil, or_false, not_or] at hi
   simp [hi.1, hi.2]
 · simp only [World.alloc, Array.getElem?_push]
   rw [if_neg (show ¬ b = w.heap.size by omega)]
 · simp only [List.mem_singleton, Prod.mk.injEq] at hi
   obtain ⟨rfl, rfl⟩ := hi
   have hn1 : ¬ (i + 1 = i) := by omega
   simp only [Blk.ok, if_true, if_neg hn1]
   refine ⟨hzl, .inr ⟨w.heap.size, m, _, rfl, Nat.zero_le _, ?_, Nat.le_refl _, by unfold maxLen; omega, by rw [List.size_toArray, hzl], ?_⟩⟩
   · show (w.heap.push _)[w.heap.size]? = _
     rw [Array.getElem?_push, if_pos rfl]
   · rw [← hzl, List.toList_toArray, List.take_length]
 · obtain ⟨bk, hbk, _⟩ := hL
   simp only [List.mem_singleton, Prod.mk.injEq] at hbk
   obtain ⟨rfl, _⟩ := hbk
   exact .inl (by simp)
 · obtain ⟨bk, hbk, _⟩ := hL
   obtain ⟨bk', hbk', _⟩ := hL'
   simp only [List.mem_singleton, Prod.mk.injEq] at hbk hbk'
   exact absurd (hbk.1.trans hbk'.1.symm) hne
 obtain ⟨i, z, q1, q2, q3, q4, q5⟩ := (T.tok e ti he).row
 have hu := under_slice (T.tok t _ ht) rfl
 have hzc : (Array.range (m * ti.size)).map (fun i => z.cells[i % z.cells.size]!) = (List.replicate m ti.zero).flatten.toArray := by
  have hzz : z.cells = ti.zero.toArray := by rw [← q4]
  have hzs : z.cells.size = ti.size := by rw [hzz]; simpa using h03
  have := rep_zero (z := ti.zero) (by omega) m
  rw [h03] at this
  rw [← this, hzs, hzz]
 have hw1 : IntKind.i64.wrap (m : Int) = m := IR.wrap (And.intro (by omega) (by omega))
 have hn1 : ¬ (nb + 1 = nb) := by omega
 simp only [execOp, Instr.makeSlice, Sem.run_bind, Go.run_underlying hu w, Result.andThen_ok, e1, SV.c, asInt, asIntOf, Sem.run_pure, hw1, if_true, if_neg hn1]
 have hti : (typeInfo e).run P w = .ok i w := by simp [typeInfo, q1]
 have hb2 : (i.bytes : Int) * m ≤ 100000 * 100 := by
  rw [q5]
  exact Int.mul_le_mul (by omega) (by omega) (by omega) (by omega)
 have c1 : (decide ((m : Int) < 0) || decide ((i.bytes : Int) * m > 2 ^ 48) || decide ((m : Int) < 0) || decide ((m : Int) > m)) = false := by
  simp; omega
 rw [hti]
 simp only [Result.andThen_ok, c1, Bool.false_eq_true, if_false, Sem.run_bind, askRoom, Int.toNat_natCast]
 have hroom : ¬ (m * i.bytes > roomBytes) := by
  have h2 : m * ti.bytes ≤ 100 * 100000 := Nat.mul_le_mul hm hby
  rw [q5]
  simp only [roomBytes]
  omega
 rw [if_neg hroom]
 simp only [Sem.run_pure, Result.andThen_ok, (T.tok e ti he).run_sizeOf w]
 by_cases hm0 : m * ti.size = 0
 · have hm00 : m = 0 := by
    rcases Nat.mul_eq_zero.1 hm0 with h | h
    · exact h
    · omega
   subst hm00
   rw [if_pos hm0]
   simp [newRow, Sem.run_bind, Sem.run_pure]
   congr 2
   exact Array.eq_empty_of_size_eq_zero (by simp)
 · rw [if_neg hm0]
   have hzr : (zeroValue e).run P w = .ok z w := by simp [zeroValue, typeInfo, q1, q3]
   simp only [Sem.run_bind, hzr, Sem.run_pure, Result.andThen_ok]
   rw [hzc]
   simp [newRow, SV.c]
end Go.Proofs.Ythfabodamhdhaaa.Tx
namespace Go.Proofs.Ythfabodamhdhaaa.Tx
open Go Go.RowKit
set_option linter.unusedSimpArgs false
set_option linter.unusedVariables false
theorem nilE {P : Program} {dst : Option Tmp} {ty : TypeId} {pos : String} {after : Array Edge} {gd : Option (Nat × Bool)} {gs : List Nat} {σ : Sg} {K : Ef → Prop} {KF : Option KT} {x : Operand} {i o : Nat} (hx : gv σ x = some (.ptr i o))
 (hB : efB σ ⟨.ptr i o, [], [], gs ++ os x, []⟩ = true) (hK : K ⟨.ptr i o, [], [], gs ++ os x, []⟩) : OpEvS P ⟨dst, .nilCheck x, ty, pos, after, gd⟩ gs σ K KF := by
 refine .mk _ hB (fun k hk => by simp [hk]) rfl (runOK_pure fun β a w hss => ?_) hK
 have e1 := gv_eval hss hx (fun k hk => by simp [hk])
 simp only [execOp, e1, SV.c, Sem.run_pure]
theorem nilX {P : Program} {dst : Option Tmp} {ty : TypeId} {pos : String} {after : Array Edge} {gd : Option (Nat × Bool)} {gs : List Nat} {σ : Sg} {K : Ef → Prop} {KF : Option KT} {x : Operand} {ad : Addr} (hx : gv σ x = some (.v (.pointer (some ad))))
 (hB : efB σ ⟨.v (.pointer (some ad)), [], [], gs ++ os x, []⟩ = true) (hK : K ⟨.v (.pointer (some ad)), [], [], gs ++ os x, []⟩) : OpEvS P ⟨dst, .nilCheck x, ty, pos, after, gd⟩ gs σ K KF := by
 refine .mk _ hB (fun k hk => by simp [hk]) rfl (runOK_pure fun β a w hss => ?_) hK
 have e1 := gv_eval hss hx (fun k hk => by simp [hk])
 simp only [execOp, e1, SV.c, Sem.run_pure]
mutual
theorem SV.c_lt {β β' : Nat → Nat} {n : Nat} (h : ∀ i, i < n → β' i = β i) : ∀ s : SV, s.lt n = true → s.c β' = s.c β
 | .v _, _ => rfl
 | .ptr i o, hs => by simp only [SV.lt, Nat.blt_eq] at hs; simp only [SV.c, h i hs]
 | .sl i _ _ _, hs => by simp only [SV.lt, Nat.blt_eq] at hs; simp only [SV.c, h i hs]
 | .os i j _, hs => by simp only [SV.lt, Bool.and_eq_true, Nat.blt_eq] at hs; simp only [SV.c, h i hs.1, h j hs.2]
 | .agg l, hs => by simp only [SV.lt] at hs; simp only [SV.c, SV.cs_lt h l hs]
 | .fn _ cap, hs => by simp only [SV.lt] at hs; simp only [SV.c, SV.cs_lt h cap hs]
 | .mv _ cap, hs => by simp only [SV.lt] at hs; simp only [SV.c, SV.cs_lt h cap hs]
 | .tup l, hs => by simp only [SV.lt] at hs; simp only [SV.c, SV.cs_lt h l hs]
theorem SV.cs_lt {β β' : Nat → Nat} {n : Nat} (h : ∀ i, i < n → β' i = β i) : ∀ l : List SV, SV.lts n l = true → SV.cs β' l = SV.cs β l
 | [], _ => rfl
 | x :: r, hs => by
  simp only [SV.lts, Bool.and_eq_true] at hs
  simp only [SV.cs, SV.c_lt h x hs.1, SV.cs_lt h r hs.2]
end
theorem Blk.ok_nm {β β' : Nat → Nat} {n : Nat} (h : ∀ i, i < n → β' i = β i) {w : World} {b : Nat} (k : Blk) (hk : k.lt n = true) (ho : k.ok β w b) : k.ok β' w b := by
 cases k with
 | gone => trivial
 | cells l ty => simp only [Blk.ok] at *; rw [SV.cs_lt h l hk]; exact ho
 | row xs ty => exact ho
 | own j n' sz xs ty => simp only [Blk.lt, Nat.blt_eq] at hk; simp only [Blk.ok, h j hk] at *; exact ho
 | obj n p => exact ho
 | mix j n' sz vs xs ty => simp only [Blk.lt, Bool.and_eq_true, Nat.blt_eq] at hk; simp only [Blk.ok, h j hk.1, SV.cs_lt h xs hk.2] at *; exact ho
 | grow j n' sz xs ty => simp only [Blk.lt, Bool.and_eq_true, Nat.blt_eq] at hk; simp only [Blk.ok, h j hk.1, SV.cs_lt h xs hk.2] at *; exact ho
def pinG : Nat → List (Nat × SV)
 | 0 => []
 | n + 1 => (n, .ptr n 0) :: pinG n
theorem pinG_lk : ∀ {n i : Nat}, i < n → lk (pinG n) i = some (.ptr i 0)
 | n + 1, i, h => by
  rw [pinG, lk]
  cases hb : Nat.beq i n with
  | true => rw [Nat.eq_of_beq_eq_true hb]; rfl
  | false =>
   have : i ≠ n := fun e => by subst e; simp at hb
   exact pinG_lk (by omega)
theorem pinG_all : ∀ {n k : Nat} {s : SV}, lk (pinG n) k = some s → k < n ∧ s = .ptr k 0
 | n + 1, k, s, h => by
  rw [pinG, lk] at h
  cases hb : Nat.beq k n with
  | true =>
   rw [hb, cond_true, Option.some.injEq] at h
   have := Nat.eq_of_beq_eq_true hb
   subst this
   exact ⟨by omega, h.symm⟩
  | false =>
   rw [hb, cond_false] at h
   have := pinG_all h
   exact ⟨by omega, this.2⟩
theorem calls_WS {P : Program} (T : Env P) (hm : P.follows .mixedOrders = true) {k : Nat} {fn : Func} {c : Code} (hfn : P.funcs[k]? = some fn) (hb : fn.body = some c) {nt : Nat} (hnt : fn.ntmps = nt) (args : List SV) (m0 m1 : List (Nat × Blk)) (nb0 : Nat) (v : Value)
 (hlen : args.length ≤ nt) (hargs : SV.lts nb0 args = true) (hm0 : mB nb0 m0 = true) (hm1 : mB nb0 m1 = true) (hlive : ∀ i b, lk m0 i = some b → b.live = true)
 {Hp : World → Prop} (hvc : ∀ h : World → Prop, (∀ w', h w' → Hp w') → vc T c ⟨nt, slotsOf 0 args, m0, nb0, h, ⟨pinG nb0, [], 0⟩⟩ (endΦ T fn fun s σ => (∀ β, s.c β = v) ∧ MSub σ.m m1 ∧ (∀ w', σ.h w' → h w') ∧ σ.z.g = pinG nb0))
 {β : Nat → Nat} {w : World} (hok : ∀ i b, lk m0 i = some b → b.ok β w (β i)) (hinj : ∀ i j bi bj, lk m0 i = some bi → lk m0 j = some bj → i ≠ j → β i ≠ β j) (hst : ∀ w', Chg (fun b => ∃ i bk, lk m0 i = some bk ∧ β i = b) w w' → Hp w') :
 Calls P k (SV.cs β args).toArray w fun e w' => e = .returned v ∧ Chg (fun b => ∃ i bk, lk m0 i = some bk ∧ β i = b) w w' ∧ ∀ i b, lk m1 i = some b → b.ok β w' (β i) := by
 have hmk := okB (nt := 0) (t := []) (m := m0) (nb := nb0) (h := fun _ => True) (z := ⟨[], [], 0⟩) rfl hm0 rfl
 have hm1k := okB (nt := 0) (t := []) (m := m1) (nb := nb0) (h := fun _ => True) (z := ⟨[], [], 0⟩) rfl hm1 rfl
 let D : Nat → Prop := fun b => b < w.heap.size ∧ ¬ ∃ i bk, lk m0 i = some bk ∧ β i = b
 let h0 : World → Prop := fun w' => Chg (fun b => ∃ i bk, lk m0 i = some bk ∧ β i = b) w w'
 let X : Cx := ⟨fun k => .pointer (some ⟨β k, 0, none⟩), [], []⟩
 have hmem : Mem ⟨nt, slotsOf 0 args, m0, nb0, h0, ⟨pinG nb0, [], 0⟩⟩ β D w :=
  ⟨hok, fun i j bi bj h1 h2 _ _ hne => hinj i j bi bj h1 h2 hne, fun i b hi _ hD => hD.2 ⟨i, b, hi, rfl⟩, fun b hD => hD.1,
   fun w' hc => ⟨hc.os, hc.tape, hc.output, hc.size, fun b hb hX => hc.same b hb (fun hD => hD ⟨hb, hX⟩)⟩⟩
 have hamb : Amb X ⟨pinG nb0, [], 0⟩ β D w :=
  ⟨fun k s hk => by rw [(pinG_all hk).2]; rfl, fun p hp => (by cases hp), fun i e hi => (by simp [lk] at hi), rfl, List.nodup_nil, fun d hd => (by cases hd)⟩
 have hg0 : ∀ k s, lk (pinG nb0) k = some s → s.lt nb0 = true := fun k s hk => by
  obtain ⟨h1, h2⟩ := pinG_all hk
  subst h2
  simp only [SV.lt, Nat.blt_eq]; exact h1
 refine (calls_vc T hm hfn hb hnt (args := args) (m0 := m0) (nb0 := nb0) (h := h0) (z0 := ⟨pinG nb0, [], 0⟩) hlen hargs hmk.wf.m hg0 (hvc h0 hst) X hamb hmem).mono fun e w' ⟨s, σ', β', D', he, ⟨h1, h2, h3, h4⟩, h5, h6, h7, h8⟩ => ?_
 have hpin : ∀ i, i < nb0 → β' i = β i := fun i hi => by
  have := h8.g i (.ptr i 0) (by rw [h4]; exact pinG_lk hi)
  simp only [X, SV.c, Value.pointer.injEq, Option.some.injEq, Addr.mk.injEq] at this
  exact this.1.symm
 refine ⟨by rw [he, h1], h3 w' (h7.h w' (Chg.refl _ _)), fun i b hi => ?_⟩
 obtain ⟨q1, q2⟩ := hm1k.wf.m i b hi
 have := h7.m i b (h2.get i b hi)
 rw [hpin i q1] at this
 exact Blk.ok_nm (fun j hj => (hpin j hj).symm) b q2 this
end Go.Proofs.Ythfabodamhdhaaa.Tx
namespace Go.Proofs.Ythfabodamhdhaaa.Tx
open Go Go.RowKit
set_option linter.unusedSimpArgs false
set_option linter.unusedVariables false
theorem calls_fam2 {P : Program} (T : Env P) (hm : P.follows .mixedOrders = true) {k : Nat} {fn : Func} {c : Code} (hfn : P.funcs[k]? = some fn) (hb : fn.body = some c) {nt : Nat} (hnt : fn.ntmps = nt) (args : List Value)
 (hlen : args.length ≤ nt) {w : World} {R : Ending → World → Prop}
 (hvc : vc T c ⟨nt, slotsOf 0 (args.map .v), [], 0, Below w.heap.size w, z0⟩ (endΦ T fn fun s σ => (∀ w', σ.h w' → Below w.heap.size w w') ∧ ∀ β w', σ.h w' → Below w.heap.size w w' →
  (∀ i b, lk σ.m i = some b → b.live = true → w.heap.size ≤ β i ∧ b.ok β w' (β i)) → R (.returned (s.c β)) w')) :
 Calls P k args.toArray w R := by
 have h0 : Mem ⟨nt, slotsOf 0 (args.map .v), [], 0, Below w.heap.size w, z0⟩ (fun _ => 0) (fun b => b < w.heap.size) w :=
  ⟨fun i b h => (by simp [lk] at h), fun i j bi bj h => (by simp [lk] at h), fun i b h => (by simp [lk] at h), fun b h => h,
   fun w' hc => ⟨hc.os, hc.tape, hc.output, hc.size, fun b hb => hc.same b hb (fun h => h hb)⟩⟩
 have h1 := calls_vc T hm hfn hb hnt (args := args.map .v) (m0 := []) (nb0 := 0) (h := Below w.heap.size w) (by simpa using hlen) (lts_v _ _) (fun i b h => by simp [lk] at h) (fun k s h => by simp [z0, lk] at h) hvc cx0 (amb0 _ _ _) h0
 rw [cs_v] at h1
 refine h1.mono fun e w' ⟨s, σ', β', D', he, hv, _, _, hmem, _⟩ => ?_
 have hh := hmem.h w' (Chg.refl _ _)
 subst he
 exact hv.2 β' w' hh (hv.1 w' hh) fun i b hi hl => ⟨Nat.le_of_not_lt fun hlt => hmem.out i b hi hl (hmem.old hv.1 hlt), hmem.m i b hi⟩
end Go.Proofs.Ythfabodamhdhaaa.Tx
namespace Go.Proofs.Ythfabodamhdhaaa.Tx
open Go Go.RowKit
set_option linter.unusedSimpArgs false
set_option linter.unusedVariables false
theorem calls_fam3 {P : Program} (T : Env P) (hm : P.follows .mixedOrders = true) {k : Nat} {fn : Func} {c : Code} (hfn : P.funcs[k]? = some fn) (hb : fn.body = some c) {nt : Nat} (hnt : fn.ntmps = nt) (args : List Value)
 (hlen : args.length ≤ nt) {w : World} {R : Ending → World → Prop}
 (hvc : vc T c ⟨nt, slotsOf 0 (args.map .v), [], 0, Below w.heap.size w, z0⟩ (endΦ T fn fun s σ => (∀ w', σ.h w' → Below w.heap.size w w') ∧ ∀ β w', σ.h w' → Below w.heap.size w w' →
  (∀ i b, lk σ.m i = some b → b.live = true → w.heap.size ≤ β i ∧ b.ok β w' (β i)) → (∀ i j bi bj, lk σ.m i = some bi → lk σ.m j = some bj → bi.live = true → bj.live = true → i ≠ j → β i ≠ β j) → R (.returned (s.c β)) w')) :
 Calls P k args.toArray w R := by
 have h0 : Mem ⟨nt, slotsOf 0 (args.map .v), [], 0, Below w.heap.size w, z0⟩ (fun _ => 0) (fun b => b < w.heap.size) w :=
  ⟨fun i b h => (by simp [lk] at h), fun i j bi bj h => (by simp [lk] at h), fun i b h => (by simp [lk] at h), fun b h => h,
   fun w' hc => ⟨hc.os, hc.tape, hc.output, hc.size, fun b hb => hc.same b hb (fun h => h hb)⟩⟩
 have h1 := calls_vc T hm hfn hb hnt (args := args.map .v) (m0 := []) (nb0 := 0) (h := Below w.heap.size w) (by simpa using hlen) (lts_v _ _) (fun i b h => by simp [lk] at h) (fun k s h => by simp [z0, lk] at h) hvc cx0 (amb0 _ _ _) h0
 rw [cs_v] at h1
 refine h1.mono fun e w' ⟨s, σ', β', D', he, hv, _, _, hmem, _⟩ => ?_
 have hh := hmem.h w' (Chg.refl _ _)
 subst he
 exact hv.2 β' w' hh (hv.1 w' hh) (fun i b hi hl => ⟨Nat.le_of_not_lt fun hlt => hmem.out i b hi hl (hmem.old hv.1 hlt), hmem.m i b hi⟩) hmem.inj
theorem callR {P : Program} {σ : Sg} {k : Nat} {args : List SV} {rs : List Nat} {K : Ef → Prop} {KF : Option KT} (fr rb : List Nat) (m1 : List (Nat × Blk)) (V : SV)
 (hB : efB σ ⟨V, fr, m1, [], rb⟩ = true) (hfr : ∀ i b, (i, b) ∈ m1 → i ∈ fr)
 (h : ∀ β w, (∀ i ∈ rb, ∀ b, lk σ.m i = some b → b.ok β w (β i)) → σ.h w → Calls P k (SV.cs β args).toArray w fun e w' => ∃ γ : Nat → Nat, e = .returned (V.c γ) ∧ (∀ i, i ∉ fr → γ i = β i) ∧ Below w.heap.size w w' ∧
  (∀ i b, (i, b) ∈ m1 → w.heap.size ≤ γ i ∧ b.ok γ w' (γ i)) ∧ ∀ i b j b', (i, b) ∈ m1 → (j, b') ∈ m1 → i ≠ j → γ i ≠ γ j)
 (hK : K ⟨V, fr, m1, rs, rb⟩) : CallEv P σ k args (efB σ) rs K KF :=
 .mk ⟨V, fr, m1, [], rb⟩ hB (fun β w h1 _ hst => (h β w h1 (hst w (Chg.refl _ _))).mono fun e w' ⟨γ, he, ha, hB, ho, hi⟩ =>
  ⟨γ, he, ha, ⟨hB.os, hB.tape, hB.output, hB.size, fun i hi _ => hB.block i hi⟩, fun i b hm => (ho i b hm).2, fun i _ ⟨b, hm, _⟩ => .inl (ho i b hm).1, fun i _ j _ ⟨b, hm, _⟩ ⟨b', hm', _⟩ hne => hi i b j b' hm hm' hne⟩) hK
end Go.Proofs.Ythfabodamhdhaaa.Tx
namespace Go.Proofs.Ythfabodamhdhaaa.Tx
open Go Go.RowKit
set_option linter.unusedSimpArgs false
set_option linter.unusedVariables false
def Dis {α : Type} (σ : Sg) (I : α → Sg) (pre : α → Prop) : Prop := ∀ (X : Cx) (a : Act) (w : World), Sat X σ a w → ∃ x, pre x ∧ Sat X (I x) a w
theorem Dis.ent {α : Type} {σ : Sg} {I : α → Sg} {pre : α → Prop} {x : α} (hx : pre x) (h : Ent σ (I x)) : Dis σ I pre := fun X a w hs => ⟨x, hx, h X a w hs⟩
theorem Blk.keep_at {β : Nat → Nat} {w w' : World} {b : Nat} {k : Blk} (hw : w'.heap[b]? = w.heap[b]?) (ho : k.ok β w b) : k.ok β w' b :=
 Blk.ok_congr (fr := []) (fun _ _ => rfl) k (Blk.av_nil k) (fun _ => hw) ho
section
variable {P : Program} (T : Env P)
theorem VC.cutD (hm : P.follows .mixedOrders = true) {nt nb0 : Nat} {t0 : List (Nat × SV)} {m0 : List (Nat × Blk)} {hi : World → Prop} {z : Gz} {α : Type} (n nb : Nat) (t : α → List (Nat × SV)) (m : α → List (Nat × Blk)) (h : α → World → Prop) (pre : α → Prop) {c : Code} {Φ : Exit → Sg → Prop}
 (hok : ∀ x, pre x → tB nt nb (t x) = true ∧ mB nb (m x) = true)
 (hv : vcTo T n c ⟨nt, t0, m0, nb0, hi, z⟩ (fun c' σ' => c' = rest n c ∧ Dis σ' (fun x => ⟨nt, t x, m x, nb, h x, z⟩) pre) Φ) (hr : ∀ x, pre x → VC P (rest n c) ⟨nt, t x, m x, nb, h x, z⟩ Φ) (hz : gB nb z.g = true := by rfl) : VC P c ⟨nt, t0, m0, nb0, hi, z⟩ Φ :=
 vcTo_VC T hm (fun c' σ' ⟨hc, hd⟩ => by
  subst hc
  intro F k X a w hF hlp _ hs
  obtain ⟨x, hx, hs'⟩ := hd X a w hs
  exact hr x hx F k X a w hF hlp (okB (hok x hx).1 (hok x hx).2 hz) hs') n c _ hv
end
end Go.Proofs.Ythfabodamhdhaaa.Tx
namespace Go.Proofs.Ythfabodamhdhaaa.Tx
open Go Go.RowKit
set_option linter.unusedSimpArgs false
set_option linter.unusedVariables false
def TEqR (ρ : Nat → Nat) (β : Nat → Nat) (t : List (Nat × SV)) : List (Nat × SV) → Prop
 | [] => True
 | (k, s) :: r => (∃ s', lk t k = some s' ∧ s'.c β = s.c (fun i => β (ρ i))) ∧ TEqR ρ β t r
theorem TEqR.get {ρ : Nat → Nat} {β : Nat → Nat} {t : List (Nat × SV)} : ∀ {l : List (Nat × SV)}, TEqR ρ β t l → ∀ k s, lk l k = some s → ∃ s', lk t k = some s' ∧ s'.c β = s.c (fun i => β (ρ i))
 | [], _, _, _, h => by simp [lk] at h
 | (j, x) :: r, ha, k, s, h => by
  simp only [lk] at h
  cases hb : Nat.beq k j with
  | true =>
   obtain rfl := Nat.eq_of_beq_eq_true hb
   rw [hb, cond_true, Option.some.injEq] at h
   subst h; exact ha.1
  | false =>
   rw [hb, cond_false] at h
   exact ha.2.get k s h
def MEqR (ρ : Nat → Nat) (L : List Nat) (β : Nat → Nat) (t : List (Nat × Blk)) : List (Nat × Blk) → Prop
 | [] => True
 | (k, b) :: r => (nin (ρ k) L = true ∧ ∃ b', lk t (ρ k) = some b' ∧ (b.live = true → b'.live = true) ∧ ∀ w x, b'.ok β w x → b.ok (fun i => β (ρ i)) w x) ∧ MEqR ρ L β t r
theorem MEqR.get {ρ : Nat → Nat} {L : List Nat} {β : Nat → Nat} {t : List (Nat × Blk)} : ∀ {l : List (Nat × Blk)}, MEqR ρ L β t l → ∀ k b, lk l k = some b → nin (ρ k) L = true ∧ ∃ b', lk t (ρ k) = some b' ∧ (b.live = true → b'.live = true) ∧ ∀ w x, b'.ok β w x → b.ok (fun i => β (ρ i)) w x
 | [], _, _, _, h => by simp [lk] at h
 | (j, x) :: r, ha, k, b, h => by
  simp only [lk] at h
  cases hb : Nat.beq k j with
  | true =>
   obtain rfl := Nat.eq_of_beq_eq_true hb
   rw [hb, cond_true, Option.some.injEq] at h
   subst h; exact ha.1
  | false =>
   rw [hb, cond_false] at h
   exact ha.2.get k b h
theorem Dis.mk3 {α : Type} {nt nb nb' : Nat} {t : List (Nat × SV)} {m : List (Nat × Blk)} {h : World → Prop} {z : Gz} (ρ : Nat → Nat) (L : List Nat) {t' : α → List (Nat × SV)} {m' : α → List (Nat × Blk)} {h' : α → World → Prop} {pre : α → Prop} {w0 : World}
 (hz : z.g = []) (hL : ∀ i ∈ L, ∃ b, lk m i = some b ∧ b.live = true) (hbel : ∀ w, h w → Below w0.heap.size w0 w)
 (hx : ∀ β w, (∀ i b, lk m i = some b → b.ok β w (β i)) → h w → (∀ i b, lk m i = some b → b.live = true → w0.heap.size ≤ β i) →
  ∃ x, pre x ∧ TEqR ρ β t (t' x) ∧ MEqR ρ L β m (m' x) ∧ injR ρ (m' x) = true ∧ ∀ w2, h w2 → (∀ i ∈ L, ∀ b, lk m i = some b → b.ok β w2 (β i)) → h' x w2) :
 Dis ⟨nt, t, m, nb, h, z⟩ (fun x => ⟨nt, t' x, m' x, nb', h' x, z⟩) pre := by
 rintro X a w ⟨β, D, hs⟩
 have hmem := hs.mem
 obtain ⟨x, hp, ht, hm, hinj, hh⟩ := hx β w hs.m (hs.h w (Chg.refl _ _)) (fun i b hi hl => Nat.le_of_not_lt fun hlt => hmem.out i b hi hl (hmem.old hbel hlt))
 have hLc : ∀ i ∈ L, ∃ o, w.heap[β i]? = some o ∧ IsMem o := fun i hi => by
  obtain ⟨b, h1, h2⟩ := hL i hi
  exact Blk.ok_cells h2 (hs.m i b h1)
 have hno : ∀ (d : Nat) (o : Obj), w.heap[d]? = some o → Other o → ¬ ∃ i ∈ L, β i = d := by
  rintro d o h1 h2 ⟨i, hi, rfl⟩
  obtain ⟨o3, h3, h4⟩ := hLc i hi
  rw [h1] at h3
  cases h3
  exact h2 h4
 refine ⟨x, hp, fun i => β (ρ i), fun b => D b ∨ ∃ i ∈ L, β i = b, ?_, hs.size, ?_, ?_, ?_, ?_, ?_, ?_, ?_⟩
 · obtain ⟨l, l1, l2, l3⟩ := hs.defers
   refine ⟨l, l1, l2, fun d hd => ⟨(l3 d hd).1, ?_, (l3 d hd).2.2⟩⟩
   rintro (h1 | h1)
   · exact (l3 d hd).2.1 h1
   · exact hno d _ (l3 d hd).1 (fun h => h) h1
 · intro k s hk
   obtain ⟨s', h1, h2⟩ := ht.get k s hk
   rw [← h2]; exact hs.t k s' h1
 · intro i b hi
   obtain ⟨_, b', h1, _, h2⟩ := hm.get i b hi
   exact h2 _ _ (hs.m _ b' h1)
 · intro i j bi bj hi hj h1 h2 hne
   obtain ⟨_, b', hi', l1, _⟩ := hm.get i bi hi
   obtain ⟨_, b2', hj', l2, _⟩ := hm.get j bj hj
   exact hs.inj _ _ _ _ hi' hj' (l1 h1) (l2 h2) (injR_spec hinj i j (lk_key hi) (lk_key hj) hne)
 · intro i b hi hl
   obtain ⟨hn, b', hi', l1, _⟩ := hm.get i b hi
   rintro (h1 | ⟨j, hj, h1⟩)
   · exact hs.out _ _ hi' (l1 hl) h1
   · obtain ⟨bj, h2, h3⟩ := hL j hj
     refine hs.inj j _ _ _ h2 hi' h3 (l1 hl) (fun e => ?_) h1
     subst e
     exact nin_iff.1 hn hj
 · rintro b (h1 | ⟨j, hj, rfl⟩)
   · exact hs.dlt b h1
   · obtain ⟨o3, h3, _⟩ := hLc j hj
     exact (Array.getElem?_eq_some_iff.1 h3).1
 · intro w2 hc
   refine hh w2 (hs.h w2 ⟨hc.os, hc.tape, hc.output, hc.size, fun b hb hd => hc.same b hb fun h1 => hd fun h2 => h1 (.inl h2)⟩) fun i hi b hb => ?_
   obtain ⟨o3, h3, _⟩ := hLc i hi
   exact Blk.keep_at (hc.same _ (Array.getElem?_eq_some_iff.1 h3).1 fun h1 => h1 (.inr ⟨i, hi, rfl⟩)) (hs.m i b hb)
 · refine ⟨fun k s hk => by rw [hz] at hk; simp [lk] at hk, fun p hp' => ⟨(hs.amb.la p hp').1, ?_⟩, hs.amb.lq, hs.amb.dep, hs.amb.nd, fun d hd => ⟨(hs.amb.pr d hd).1, ?_⟩⟩
   · rintro (h1 | h1)
     · exact (hs.amb.la p hp').2 h1
     · obtain ⟨st, pd, h2⟩ := (hs.amb.la p hp').1
       exact hno _ _ h2 (fun h => h) h1
   · rintro (h1 | h1)
     · exact (hs.amb.pr d hd).2 h1
     · exact hno _ _ (hs.amb.pr d hd).1 (fun h => h) h1
theorem loopD {V : Sg → (Exit → Sg → Prop) → Prop} {nt nb : Nat} {t0 : List (Nat × SV)} {m0 : List (Nat × Blk)} {hi : World → Prop} {z : Gz} {Φ : Exit → Sg → Prop} {α : Type} (nb' : Nat) (t : α → List (Nat × SV)) (m : α → List (Nat × Blk)) (h : α → World → Prop)
 (pre : α → Prop) (μ : α → Nat) (h0 : Dis ⟨nt, t0, m0, nb, hi, z⟩ (fun x => ⟨nt, t x, m x, nb', h x, z⟩) pre) (hok : ∀ x, pre x → tB nt nb' (t x) = true ∧ mB nb' (m x) = true)
 (hr : ∀ x, pre x → V ⟨nt, t x, m x, nb', h x, z⟩ (seqΦ (fun σ' => Dis σ' (fun x => ⟨nt, t x, m x, nb', h x, z⟩) (fun x' => pre x' ∧ μ x' < μ x)) Φ)) (hz : gB nb' z.g = true := by rfl) : LoopEv V ⟨nt, t0, m0, nb, hi, z⟩ Φ :=
 .dis α (fun x => ⟨nt, t x, m x, nb', h x, z⟩) pre μ h0 fun x hx => ⟨okB (hok x hx).1 (hok x hx).2 hz, hr x hx⟩
attribute [irreducible] Dis
end Go.Proofs.Ythfabodamhdhaaa.Tx
namespace Go.Proofs.Ythfabodamhdhaaa.Tx
open Go Go.RowKit
set_option linter.unusedSimpArgs false
set_option linter.unusedVariables false
theorem Sat'.dof {X : Cx} {σ : Sg} {β : Nat → Nat} {D : Nat → Prop} {a : Act} {w : World} (hs : Sat' X σ β D a w) {b : Nat} (hk : ∀ w, σ.h w → ∃ cs ty fr, w.heap[b]? = some (.cells cs ty fr)) : D b := by
 refine Classical.byContradiction fun hD => ?_
 have hlt : b < w.heap.size := by
  obtain ⟨cs, ty, fr, h⟩ := hk w (hs.h w (Chg.refl _ _))
  exact (Array.getElem?_eq_some_iff.1 h).1
 have h2 := hs.h (w.putObj b (.deferred none)) ⟨rfl, rfl, rfl, Nat.le_of_eq World.putObj_size.symm, fun i hi hn => (World.putObj_heap_other (fun e => hn (e ▸ hD)))⟩
 obtain ⟨cs, ty, fr, h3⟩ := hk _ h2
 rw [World.putObj_heap_same hlt] at h3
 cases h3
theorem setCell_other {w : World} {ad : Addr} {v : Value} {b : Nat} (h : b ≠ ad.block) : (w.setCell ad v).heap[b]? = w.heap[b]? := by
 simp only [World.setCell, Array.getElem?_modify]
 rw [if_neg (fun e => h e.symm)]
theorem slLo {P : Program} (T : Env P) {dst : Option Tmp} {ty : TypeId} {pos : String} {after : Array Edge} {gd : Option (Nat × Bool)} {gs : List Nat} {σ : Sg} {K : Ef → Prop} {KF : Option KT} {t e n c z : Nat} {x lo : Operand} {ad : Addr} {k : IntKind}
 {sz : Nat} {zr : List Value} {by_ : Nat} {ti : TI} (hx : gv σ x = some (.v (.slice (some ad) n c))) (hl : gv σ lo = some (.v (.int k z))) (ht : T.ty t = some ⟨sz, zr, by_, .slice e⟩) (he : T.ty e = some ti) (hz : z < n) (hc : n ≤ c)
 (hB : efB σ ⟨.v (.slice (some (ad.add (z * ti.size))) (n - z) (c - z)), [], [], gs ++ (os x ++ os lo), []⟩ = true) (hK : K ⟨.v (.slice (some (ad.add (z * ti.size))) (n - z) (c - z)), [], [], gs ++ (os x ++ os lo), []⟩) : OpEvS P ⟨dst, .slice t x (some lo) none none, ty, pos, after, gd⟩ gs σ K KF := by
 refine .mk _ hB (fun k hk => by simp [hk]) rfl (runOK_pure fun β a w hss => ?_) hK
 have e1 := gv_eval hss hx (fun k hk => by simp [hk])
 have e2 := gv_eval hss hl (fun k hk => by simp [hk])
 have hu := under_slice (T.tok t _ ht) rfl
 have hel : P.elem t = e := by simp [Program.elem, hu]
 have hu' : P.underlying t = some (.slice (P.elem t)) := by rw [hel]; exact hu
 have hsz := (T.tok e ti he).run_sizeOf w
 simp only [execOp, Option.map_some, Option.map_none, e1, e2, SV.c, Sem.run_bind, Sem.run_pure, Result.andThen_ok]
 rw [run_sliceAt_slice w t _ _ _ _ hu', run_slice_l w t _ _ _ hu' _ _ (by omega) (by omega), hel, hsz]
 simp only [Result.andThen_ok, sliced, Int.toNat_natCast, Option.map_some]
 rw [if_neg (by omega)]
theorem slHi {P : Program} (T : Env P) {dst : Option Tmp} {ty : TypeId} {pos : String} {after : Array Edge} {gd : Option (Nat × Bool)} {gs : List Nat} {σ : Sg} {K : Ef → Prop} {KF : Option KT} {t e n c z : Nat} {x hi : Operand} {ad : Addr} {k : IntKind}
 {sz : Nat} {zr : List Value} {by_ : Nat} {ti : TI} (hx : gv σ x = some (.v (.slice (some ad) n c))) (hl : gv σ hi = some (.v (.int k z))) (ht : T.ty t = some ⟨sz, zr, by_, .slice e⟩) (he : T.ty e = some ti) (hc : z ≤ c)
 (hB : efB σ ⟨.v (.slice (some ad) z c), [], [], gs ++ (os x ++ os hi), []⟩ = true) (hK : K ⟨.v (.slice (some ad) z c), [], [], gs ++ (os x ++ os hi), []⟩) : OpEvS P ⟨dst, .slice t x none (some hi) none, ty, pos, after, gd⟩ gs σ K KF := by
 refine .mk _ hB (fun k hk => by simp [hk]) rfl (runOK_pure fun β a w hss => ?_) hK
 have e1 := gv_eval hss hx (fun k hk => by simp [hk])
 have e2 := gv_eval hss hl (fun k hk => by simp [hk])
 have hu := under_slice (T.tok t _ ht) rfl
 have hel : P.elem t = e := by simp [Program.elem, hu]
 have hu' : P.underlying t = some (.slice (P.elem t)) := by rw [hel]; exact hu
 have hsz := (T.tok e ti he).run_sizeOf w
 simp only [execOp, Option.map_some, Option.map_none, e1, e2, SV.c, Sem.run_bind, Sem.run_pure, Result.andThen_ok]
 rw [run_sliceAt_slice w t _ _ _ _ hu', run_slice_h w t _ _ _ hu' _ _ (by omega) (by omega), hel, hsz]
 simp only [Result.andThen_ok, sliced, Int.toNat_natCast, Option.map_some, Nat.zero_mul, Nat.sub_zero]
 have h0 : ad.add 0 = ad := by simp [Addr.add]
 rw [h0, ite_self]
end Go.Proofs.Ythfabodamhdhaaa.Tx
namespace Go.Proofs.Ythfabodamhdhaaa.Tx
open Go Go.RowKit
set_option linter.unusedSimpArgs false
set_option linter.unusedVariables false
def MpOk (P : Program) (k : TypeId) (H : Value → Value) : Obj → Prop
 | .map es _ => ∀ e ∈ es.toList, (∃ l, keyOf P k e.key = some l) ∧ e.val = H e.key
 | _ => False
theorem MpOk.empty (P : Program) (k : TypeId) (H : Value → Value) : MpOk P k H (.map #[] 0) := fun e he => by simp at he
theorem MpOk.look {P : Program} {t k e : TypeId} {H : Value → Value} {o : Obj} (h : MpOk P k H o) (K : Maps.Keyed P k) (ht : P.underlying t = some (.map k e)) {w : World} {b : Nat} (hb : w.heap[b]? = some o) {z : Value} (hz : (zeroValue e).run P w = .ok z w) {key : Value} {kl : Lit} (hkey : keyOf P k key = some kl) :
 (Instr.lookup t (.map (some b)) key true).run P w = .ok (.tuple #[z, .bool false]) w ∨ (Instr.lookup t (.map (some b)) key true).run P w = .ok (.tuple #[H key, .bool true]) w := by
 cases o with
 | map es clock =>
  rcases K.find w hkey es.toList (fun e he => (h e he).1) with ⟨h1, h2⟩ | ⟨j, e0, h1, h2, h3⟩
  · exact .inl (by simp [Instr.lookup, run_underlying ht, MapKept.run_getObj_map hb, K.check w _ hkey, h1, hz, Result.andThen])
  · have hv := (h e0 (List.mem_of_getElem? h2)).2
    rw [h3] at hv
    exact .inr (by simp [Instr.lookup, run_underlying ht, MapKept.run_getObj_map hb, K.check w _ hkey, h1, Result.andThen, hv])
 | _ => exact h.elim
theorem MpOk.put {P : Program} {t k e : TypeId} {H : Value → Value} {o : Obj} (h : MpOk P k H o) (K : Maps.Keyed P k) (ht : P.underlying t = some (.map k e)) {w : World} {b : Nat} (hb : w.heap[b]? = some o) {key : Value} {kl : Lit} (hkey : keyOf P k key = some kl) :
 ∃ o', (Instr.mapUpdate t (.map (some b)) key (H key)).run P w = .ok () (ChangeMaps.setBlock w b o') ∧ IsMem o' ∧ MpOk P k H o' := by
 cases o with
 | map es clock =>
  rcases K.find w hkey es.toList (fun e he => (h e he).1) with ⟨h1, h2⟩ | ⟨j, e0, h1, h2, h3⟩
  · refine ⟨.map (es.push ⟨key, H key, clock⟩) (clock + 1), ?_, trivial, ?_⟩
    · simp [Instr.mapUpdate, run_underlying ht, MapKept.run_getObj_map hb, K.check w false hkey, h1, MapKept.run_setObj_map _ hb, Result.andThen, ChangeMaps.setBlock]
    · intro e he
      simp only [Array.toList_push, List.mem_append, List.mem_singleton] at he
      rcases he with he | rfl
      · exact h e he
      · exact ⟨⟨kl, hkey⟩, rfl⟩
  · have hj : es[j]? = some e0 := by simpa using h2
    refine ⟨.map (es.modify j (fun e' => { e' with key := key, val := H key })) clock, ?_, trivial, ?_⟩
    · simp [Instr.mapUpdate, run_underlying ht, MapKept.run_getObj_map hb, K.check w false hkey, h1, hj, h3, K.stays w hkey, MapKept.run_setObj_map _ hb, Result.andThen, ChangeMaps.setBlock]
    · intro e he
      obtain ⟨i, hi⟩ := List.mem_iff_getElem?.1 he
      rw [Array.getElem?_toList, Array.getElem?_modify] at hi
      split at hi
      · subst_vars
        rw [hj] at hi
        simp only [Option.map_some, Option.some.injEq] at hi
        subst hi
        exact ⟨⟨kl, hkey⟩, rfl⟩
      · exact h e (List.mem_iff_getElem?.2 ⟨i, by rw [Array.getElem?_toList]; exact hi⟩)
 | _ => exact h.elim
theorem sb_same {w : World} {b : Nat} {o : Obj} (hb : w.heap[b]? = some o) (o' : Obj) : (ChangeMaps.setBlock w b o').heap[b]? = some o' := by
 simp [ChangeMaps.setBlock, (Array.getElem?_eq_some_iff.1 hb).1]
theorem sb_other {w : World} {b i : Nat} (o' : Obj) (h : i ≠ b) : (ChangeMaps.setBlock w b o').heap[i]? = w.heap[i]? := by
 simp only [ChangeMaps.setBlock]
 exact Array.getElem?_setIfInBounds_ne (fun e => h e.symm)
theorem lookS {P : Program} (T : Env P) {dst : Option Tmp} {ty t k e : TypeId} {pos : String} {after : Array Edge} {gd : Option (Nat × Bool)} {gs : List Nat} {σ : Sg} {K : Ef → Prop} {ks : KT} {m x : Operand} {bm i : Nat} {sx : SV} {H : Value → Value} (L : Maps.Keyed P k) {z key v : Value} {kl : Lit}
 (hm : gv σ m = some (.v (.map (some bm)))) (hx : gv σ x = some sx) (hsx : ∀ β, sx.c β = key) (hi : lk σ.m i = some (.obj bm (MpOk P k H))) (ht : P.underlying t = some (.map k e)) (hz : ∀ w, (zeroValue e).run P w = .ok z w) (hkey : keyOf P k key = some kl) (hv : H key = v)
 (h1 : ks (.v (.tuple #[z, .bool false])) σ) (h2 : ks (.v (.tuple #[v, .bool true])) σ) : OpEvS P ⟨dst, .lookup t m x true, ty, pos, after, gd⟩ gs σ K (some ks) := by
 subst hv
 refine .st ks rfl rfl fun X β D a w hok hs => ?_
 obtain ⟨hb, o, ho, _, hp⟩ := hs.m i _ hi
 rw [hb] at ho
 have hse := hs.sees ⟨.v undef, [], [], os m ++ os x, []⟩
 have e1 := gv_eval hse hm (fun k hk => by simp [hk])
 have e2 := gv_eval hse hx (fun k hk => by simp [hk])
 rcases hp.look L ht ho (hz w) hkey with hr | hr
 · refine ⟨_, σ, β, D, w, ?_, h1, rfl, hok, rfl, hs⟩
   simp only [execOp, e1, e2, hsx, SV.c, Sem.run_bind, Sem.run_pure, Result.andThen_ok, hr]
 · refine ⟨_, σ, β, D, w, ?_, h2, rfl, hok, rfl, hs⟩
   simp only [execOp, e1, e2, hsx, SV.c, Sem.run_bind, Sem.run_pure, Result.andThen_ok, hr]
theorem updE {P : Program} (T : Env P) {dst : Option Tmp} {ty t k e : TypeId} {pos : String} {after : Array Edge} {gd : Option (Nat × Bool)} {gs : List Nat} {σ : Sg} {K : Ef → Prop} {KF : Option KT} {m x y : Operand} {bm : Nat} (i : Nat) {sx : SV} {H : Value → Value} (L : Maps.Keyed P k) {key v : Value} {kl : Lit}
 (hm : gv σ m = some (.v (.map (some bm)))) (hx : gv σ x = some sx) (hsx : ∀ β, sx.c β = key) (hy : gv σ y = some (.v v)) (hi : lk σ.m i = some (.obj bm (MpOk P k H))) (ht : P.underlying t = some (.map k e)) (hkey : keyOf P k key = some kl) (hv : v = H key)
 (hB : efB σ ⟨.v undef, [], [(i, .obj bm (MpOk P k H))], gs ++ (os m ++ (os x ++ os y)), [i]⟩ = true) (hK : K ⟨.v undef, [], [(i, .obj bm (MpOk P k H))], gs ++ (os m ++ (os x ++ os y)), [i]⟩) : OpEvS P ⟨dst, .mapUpdate t m x y, ty, pos, after, gd⟩ gs σ K KF := by
 refine .mk _ hB (fun k hk => by simp [hk]) rfl (fun β a w hss => ?_) hK
 obtain ⟨hb, o, ho, _, hp⟩ := hss.m i (by simp) _ hi
 rw [hb] at ho
 have e1 := gv_eval hss hm (fun k hk => by simp [hk])
 have e2 := gv_eval hss hx (fun k hk => by simp [hk])
 have e3 := gv_eval hss hy (fun k hk => by simp [hk])
 obtain ⟨o', hr, ho1, ho2⟩ := hp.put L ht ho hkey
 have hsame := sb_same ho o'
 refine ⟨β, ChangeMaps.setBlock w bm o', ⟨fun _ _ => rfl, ⟨rfl, rfl, rfl, by simp [ChangeMaps.setBlock], fun b hbl hn => ?_⟩, fun j bk hj => ?_, fun j hj => (by cases hj), fun j hj => (by cases hj)⟩, .inr ⟨?_, rfl⟩⟩
 · exact sb_other o' (fun e => hn ⟨i, _, List.mem_singleton.2 rfl, by simp, by rw [hb]; exact e.symm⟩)
 · simp only [List.mem_singleton, Prod.mk.injEq] at hj
   obtain ⟨rfl, rfl⟩ := hj
   exact ⟨hb, o', by rw [hb]; exact hsame, ho1, ho2⟩
 · simp only [execOp, e1, e2, e3, hsx, SV.c, hv, Sem.run_bind, Sem.run_pure, Result.andThen_ok, hr]
theorem mkMapS {P : Program} {dst : Option Tmp} {ty t k : TypeId} {pos : String} {after : Array Edge} {gd : Option (Nat × Bool)} {gs : List Nat} {nt nb : Nat} {tt : List (Nat × SV)} {m : List (Nat × Blk)} {h0 : World → Prop} {z : Gz} {K : Ef → Prop} {ks : KT} (H : Value → Value)
 (hK : ∀ n, ks (.v (.map (some n))) ⟨nt, tt, (nb, .obj n (MpOk P k H)) :: m, nb + 1, h0, z⟩) : OpEvS P ⟨dst, .makeMap t none, ty, pos, after, gd⟩ gs ⟨nt, tt, m, nb, h0, z⟩ K (some ks) := by
 refine .st ks rfl rfl fun X β D a w hok hs => ?_
 let β' : Nat → Nat := fun i => if i = nb then w.heap.size else β i
 have hlow : ∀ i, i < nb → β' i = β i := fun i hi => by
  show (if i = nb then w.heap.size else β i) = _
  rw [if_neg (by omega)]
 have e0 : β' nb = w.heap.size := if_pos rfl
 have hnew : (w.alloc (.map #[] 0)).heap[w.heap.size]? = some (.map #[] 0) := by
  show (w.heap.push _)[w.heap.size]? = _
  rw [Array.getElem?_push, if_pos rfl]
 have hold : ∀ c, c < w.heap.size → (w.alloc (.map #[] 0)).heap[c]? = w.heap[c]? := fun c hc => by
  show (w.heap.push _)[c]? = _
  rw [Array.getElem?_push, if_neg (by omega)]
 have hsz : (w.alloc (.map #[] 0)).heap.size = w.heap.size + 1 := Array.size_push ..
 have hlive : ∀ i bk, lk m i = some bk → bk.live = true → β i < w.heap.size := fun i bk hi hl => Blk.ok_lt hl (hs.m i bk hi)
 have hlk : ∀ i bk, lk ((nb, Blk.obj w.heap.size (MpOk P k H)) :: m) i = some bk → (i = nb ∧ bk = .obj w.heap.size (MpOk P k H)) ∨ (i < nb ∧ lk m i = some bk) := fun i bk hi => by
  rw [lk] at hi
  cases hb2 : Nat.beq i nb with
  | true => rw [hb2, cond_true, Option.some.injEq] at hi; exact .inl ⟨Nat.eq_of_beq_eq_true hb2, hi.symm⟩
  | false => rw [hb2, cond_false] at hi; exact .inr ⟨(hok.wf.m i bk hi).1, hi⟩
 refine ⟨.v (.map (some w.heap.size)), _, β', D, w.alloc (.map #[] 0), ?_, hK w.heap.size, rfl, ⟨⟨fun k s hk => ?_, fun k s hk => ?_, fun i bk hi => ?_⟩, hok.lt⟩, rfl, ?_⟩
 · simp only [execOp, Option.map_none, Sem.run_bind, run_makeMap, Result.andThen_ok, Sem.run_pure, SV.c]
 · exact SV.lt_mono (Nat.le_add_right nb 1) s (hok.wf.t k s hk)
 · exact SV.lt_mono (Nat.le_add_right nb 1) s (hok.wf.g k s hk)
 · rcases hlk i bk hi with ⟨rfl, rfl⟩ | ⟨_, h2⟩
   · exact ⟨Nat.lt_add_of_pos_right (by decide), rfl⟩
   · exact ⟨Nat.lt_of_lt_of_le (hok.wf.m i bk h2).1 (Nat.le_add_right nb 1), Blk.lt_mono (Nat.le_add_right nb 1) bk (hok.wf.m i bk h2).2⟩
 · refine ⟨?_, hs.size, fun k s hk => (hs.t k s hk).trans (SV.c_lt hlow s (hok.wf.t k s hk)).symm, fun i bk hi => ?_, fun i j bi bj hi hj li lj hne => ?_, fun i bk hi hl hD => ?_, fun c hc => by rw [hsz]; exact Nat.lt_succ_of_lt (hs.dlt c hc), fun w2 hc => ?_, ?_⟩
   · obtain ⟨l, l1, l2, l3⟩ := hs.defers
     exact ⟨l, l1, l2, fun d hd => ⟨(hold _ (Array.getElem?_eq_some_iff.1 (l3 d hd).1).1).trans (l3 d hd).1, (l3 d hd).2⟩⟩
   · rcases hlk i bk hi with ⟨rfl, rfl⟩ | ⟨hlt, h2⟩
     · exact ⟨e0, .map #[] 0, by rw [e0]; exact hnew, True.intro, MpOk.empty P k H⟩
     · rw [hlow i hlt]
       exact Blk.ok_nm hlow bk (hok.wf.m i bk h2).2 (Blk.ok_congr (fr := []) (fun _ _ => rfl) bk (Blk.av_nil bk) (fun hl => hold _ (hlive i bk h2 hl)) (hs.m i bk h2))
   · rcases hlk i bi hi with ⟨rfl, rfl⟩ | ⟨hlt, h2⟩ <;> rcases hlk j bj hj with ⟨rfl, rfl⟩ | ⟨hlt', h2'⟩
     · exact absurd rfl hne
     · rw [e0, hlow j hlt']; have := hlive j bj h2' lj; omega
     · rw [e0, hlow i hlt]; have := hlive i bi h2 li; omega
     · rw [hlow i hlt, hlow j hlt']; exact hs.inj i j bi bj h2 h2' li lj hne
   · rcases hlk i bk hi with ⟨rfl, rfl⟩ | ⟨hlt, h2⟩
     · rw [e0] at hD
       have := hs.dlt _ hD; omega
     · rw [hlow i hlt] at hD
       exact hs.out i bk h2 hl hD
   · refine hs.h w2 ⟨hc.os, hc.tape, hc.output, Nat.le_trans (by rw [hsz]; omega) hc.size, fun c hcl hn => ?_⟩
     rw [hc.same c (by rw [hsz]; omega) hn]
     exact hold c hcl
   · exact hs.amb.keep (fun k s hk => SV.c_lt hlow s (hok.wf.g k s hk)) (fun c o hco _ => (hold c (Array.getElem?_eq_some_iff.1 hco).1).trans hco) (fun c hcl hD => hD)
end Go.Proofs.Ythfabodamhdhaaa.Tx
namespace Go.Proofs.Ythfabodamhdhaaa
open Go Tx Go.RowKit
set_option linter.unusedSimpArgs false
set_option linter.unusedVariables false
abbrev stK (s a d : Int) : Value := .agg #[.int .u64 s, .int .i64 a, .int .i64 d]
theorem under118 : Try.prog.underlying 118 = some (.struct #[⟨"set", 116, 0, false, "", "bigtop/route", 0⟩, ⟨"at", 3, 1, false, "", "bigtop/route", 8⟩, ⟨"day", 3, 2, false, "", "bigtop/route", 16⟩]) := by kernel_rfl
theorem under116 : Try.prog.underlying 116 = some (.int .u64) := by kernel_rfl
theorem under3 : Try.prog.underlying 3 = some (.int .i64) := by kernel_rfl
theorem under169 : Try.prog.underlying 169 = some (.map 118 3) := by kernel_rfl
theorem laidB : laidOutB Try.prog = true := by kernel_rfl
theorem kt118 : Try.prog.keyType 118 = true := by kernel_rfl
theorem sz118 : Nat.ble (Try.prog.types.size + 2) 10000 = true := by kernel_rfl
theorem row118 : Nat.ble (118 + 1) Try.prog.types.size = true := by kernel_rfl
set_option maxRecDepth 100000 in
theorem lt118 : 118 < Try.prog.types.size := Nat.le_of_ble_eq_true row118
set_option maxRecDepth 100000 in
theorem sz118' : Try.prog.types.size + 2 ≤ 10000 := Nat.le_of_ble_eq_true sz118
set_option maxRecDepth 100000 in
theorem wide118 : (match Try.prog.underlying 118 with | some (.array _ _) | some (.struct _) => true | _ => false) = true := by rw [under118]
set_option maxRecDepth 100000 in
theorem klaw118 : WideMaps.KeyLaw Try.prog 118 := deep_law_gate laidB sz118' lt118 kt118 wide118
theorem law118 : Maps.Keyed Try.prog 118 := Maps.Keyed.of_law klaw118
theorem cells118 : Try.prog.cellsOf 118 = 3 := by kernel_rfl
theorem cells116 : Try.prog.cellsOf 116 = 1 := by kernel_rfl
theorem cells3 : Try.prog.cellsOf 3 = 1 := by kernel_rfl
theorem stK_key {s a d : Int} (hs : (Lit.int .u64 s).wf = true) (ha : (Lit.int .i64 a).wf = true) (hd : (Lit.int .i64 d).wf = true) : ∃ l, keyOf Try.prog 118 (stK s a d) = some l := by
 have hf : (stK s a d).formed Try.prog 118 = true := by simp only [Value.formed, under118, cells118]; rfl
 have hl : ∀ n, Try.prog.keyLits (n + 2) 118 [.int .u64 s, .int .i64 a, .int .i64 d] = some [.int .u64 s, .int .i64 a, .int .i64 d] := fun n => by
  simp [Program.keyLits, under118, under116, under3, cells118, cells116, cells3, hs, ha, hd]
 obtain ⟨n, hn⟩ : ∃ n, Try.prog.types.size = n + 1 := ⟨Try.prog.types.size - 1, by have := Nat.le_of_ble_eq_true row118; omega⟩
 have hcs : (stK s a d).cells.toList = [.int .u64 s, .int .i64 a, .int .i64 d] := rfl
 have : keyOf Try.prog 118 (stK s a d) = some (.string (keyBytes [.int .u64 s, .int .i64 a, .int .i64 d])) := by
  simp only [keyOf, under118, kt118, hf, Bool.and_self, if_true]
  rw [hn, hcs, hl n]
  rfl
 exact ⟨_, this⟩
end Go.Proofs.Ythfabodamhdhaaa
namespace Go.Proofs.Ythfabodamhdhaaa
open Go Tx Go.RowKit
set_option linter.unusedSimpArgs false
set_option linter.unusedVariables false
abbrev prF (r : Int × Int) : List Value := [iv r.1, iv r.2]
structure Tw where
 O : List (Int × Int)
 s1 : Int
 s2 : Int
 pay : Int
 lot : Int
 rent : Int
 R : List (Int × Int)
 cold : Int
 cut : Int
structure Tn where
 oo : Option Addr
 oc : Nat
 ro : Option Addr
 rc : Nat
 d : Tw
abbrev Tn.cs (x : Tn) : List Value := [.slice x.oo x.d.O.length x.oc, iv x.d.s1, iv x.d.s2, iv x.d.pay, iv x.d.lot, iv x.d.rent, .slice x.ro x.d.R.length x.rc, iv x.d.cold, iv x.d.cut]
structure Lr where
 o : Option Addr
 c : Nat
 L : List (Int × Int)
abbrev Lr.cs (x : Lr) : List Value := [.slice x.o x.L.length x.c]
structure To where
 days : Int
 shift : Int
 size : Int
 T : List Tw
 L : List (List (Int × Int))
structure Tr where
 days : Int
 shift : Int
 size : Int
 to : Option Addr
 tc : Nat
 T : List Tn
 lo : Option Addr
 lc : Nat
 L : List Lr
abbrev Tr.cs (x : Tr) : List Value := [iv x.days, iv x.shift, iv x.size, .slice x.to x.T.length x.tc, .slice x.lo x.L.length x.lc]
abbrev Tr.v (x : Tr) : Value := .agg #[iv x.days, iv x.shift, iv x.size, .slice x.to x.T.length x.tc, .slice x.lo x.L.length x.lc]
abbrev Tr.d (x : Tr) : To := ⟨x.days, x.shift, x.size, x.T.map Tn.d, x.L.map Lr.L⟩
structure TnIn (t : Tn) (w : World) : Prop where
 o : Rd 2 prF (.slice t.oo t.d.O.length t.oc) t.d.O w
 r : Rd 2 prF (.slice t.ro t.d.R.length t.rc) t.d.R w
 ol : t.d.O.length ≤ 1000000
 rl : t.d.R.length ≤ 1000000
structure TrIn (x : Tr) (w : World) : Prop where
 t : Rd 9 Tn.cs (.slice x.to x.T.length x.tc) x.T w
 ti : ∀ t ∈ x.T, TnIn t w
 l : Rd 1 Lr.cs (.slice x.lo x.L.length x.lc) x.L w
 li : ∀ r ∈ x.L, Rd 2 prF (.slice r.o r.L.length r.c) r.L w
 tl : x.T.length ≤ 1000000
 ll : x.L.length ≤ 1000000
 lr : ∀ r ∈ x.L, r.L.length ≤ 1000000
 tcap : x.T.length ≤ x.tc
theorem TnIn.below {t : Tn} {w w' : World} (h : TnIn t w) (hb : Below w.heap.size w w') : TnIn t w' := ⟨h.o.below hb, h.r.below hb, h.ol, h.rl⟩
theorem TrIn.below {x : Tr} {w w' : World} (h : TrIn x w) (hb : Below w.heap.size w w') : TrIn x w' := ⟨h.t.below hb, fun t ht => (h.ti t ht).below hb, h.l.below hb, fun r hr => (h.li r hr).below hb, h.tl, h.ll, h.lr, h.tcap⟩
def apB (days : Int) : Int → List (Int × Int) → Bool
 | _, [] => true
 | last, r :: l => (decide (last + 1 ≤ r.1) && (decide (r.1 ≤ r.2) && decide (r.2 ≤ days - 1))) && apB days r.2 l
def twB (days : Int) (x : Tw) : Bool :=
 inB x.O.length 1 3 && (apB days (-1) x.O && ((decide (1 ≤ x.s1) && (decide (x.s1 ≤ x.s2) && decide (x.s2 ≤ 10))) && (inB x.pay 0 1000000 && (inB x.lot 0 100000 && (inB x.rent 0 1000000 &&
  (decide (x.R.length ≤ 3) && ((x.R.all fun r => decide (-60 ≤ r.1) && (decide (r.1 ≤ r.2) && decide (r.2 ≤ 60))) && (inB x.cold 0 60 && inB x.cut 0 1000))))))))
def quB (x : Tw) : Bool := decide (x.O.length + x.R.length = 0) && (decide (x.s1 = 0) && (decide (x.s2 = 0) && (decide (x.pay = 0) && (decide (x.lot = 0) && (decide (x.rent = 0) && (decide (x.cold = 0) && decide (x.cut = 0)))))))
def lgB (n i : Nat) (l : List (Int × Int)) : Bool := decide (l.length = n) && (decide (l[i]? = some (0, 0)) && l.all fun x => inB x.1 0 200 && inB x.2 0 1000000)
def toB (x : To) : Bool :=
 (inB x.days 1 60 && (inB x.shift 1 24 && (inB x.size 0 100000 && (inB x.T.length 2 9 && decide (x.L.length = x.T.length))))) &&
  (((x.T[0]?).any quB && (x.T.drop 1).all (twB x.days)) && (List.range x.L.length).all fun i => (x.L[i]?).any (lgB x.T.length i))
theorem within_ok (n lo hi : Int) (w : World) : Calls Try.prog 70 #[iv n, iv lo, iv hi] w fun e w' => e = .returned (.bool (inB n lo hi)) ∧ Below w.heap.size w w' := by
 refine calls_val env mixed Try.func70 has70 Try.ntmps70 [iv n, iv lo, iv hi] (by simp) ?_
 repeat'
  conv => whnf
  first
   | refine zA ?_ | refine zB ?_ | refine zC ?_ | refine zD ?_ | refine zE ?_ | refine zF ?_ | refine zG ?_ | refine zH ?_ | refine zJ ?_ | refine zI ?_ | refine splT ?_ | refine splF ?_ | refine splNot ?_
   | ((first | refine splIn ?_ ?_ | refine splD ?_ ?_ | refine splE ?_ ?_ | refine splNE ?_ ?_) <;> intro hc <;> first | (exfalso; omega) | (exfalso; dsimp only at hc; omega) | skip)
 all_goals exact ⟨fun β => congrArg Value.bool (by simp [inB, *]), fun w' h => h⟩
theorem In_ok (n lo hi : Int) (w : World) : Calls Try.prog 37 #[iv n, iv lo, iv hi] w fun e w' => e = .returned (.bool (inB n lo hi)) ∧ Below w.heap.size w w' := by
 refine calls_val env mixed Try.func37 has37 Try.ntmps37 [iv n, iv lo, iv hi] (by simp) ?_
 repeat'
  conv => whnf
  first
   | refine zA ?_ | refine zB ?_ | refine zC ?_ | refine zD ?_ | refine zE ?_ | refine zF ?_ | refine zG ?_ | refine zH ?_ | refine zJ ?_ | refine zI ?_ | refine splT ?_ | refine splF ?_ | refine splNot ?_
   | ((first | refine splIn ?_ ?_ | refine splD ?_ ?_ | refine splE ?_ ?_ | refine splNE ?_ ?_) <;> intro hc <;> first | (exfalso; omega) | (exfalso; dsimp only at hc; omega) | skip)
 all_goals exact ⟨fun β => congrArg Value.bool (by simp [inB, *]), fun w' h => h⟩
def lgO (x : To) (f t : Nat) : Int × Int := (((x.L[f]?).getD [])[t]?).getD (0, 0)
def lsO (x : To) (f t : Nat) : Int := imax 0 (((lgO x f t).1 + x.shift - 1).tdiv x.shift - 1)
structure ToN (x : To) : Prop where
 d : 1 ≤ x.days ∧ x.days ≤ 60
 s : 1 ≤ x.shift ∧ x.shift ≤ 24
 z : 0 ≤ x.size ∧ x.size ≤ 100000
 n : 2 ≤ x.T.length ∧ x.T.length ≤ 9
 l : x.L.length = x.T.length
 lr : ∀ r ∈ x.L, r.length = x.T.length ∧ ∀ p ∈ r, (0 ≤ p.1 ∧ p.1 ≤ 200) ∧ 0 ≤ p.2 ∧ p.2 ≤ 1000000
 t : ∀ k, 1 ≤ k → ∀ t, x.T[k]? = some t → twB x.days t = true
theorem ToN.leg {x : To} (h : ToN x) (f t : Nat) : (0 ≤ (lgO x f t).1 ∧ (lgO x f t).1 ≤ 200) ∧ 0 ≤ (lgO x f t).2 ∧ (lgO x f t).2 ≤ 1000000 := by
 unfold lgO
 cases hr : x.L[f]? with
 | none => simp
 | some r =>
  simp only [Option.getD_some]
  cases hp : r[t]? with
  | none => simp
  | some p => exact (h.lr r (List.mem_of_getElem? hr)).2 p (List.mem_of_getElem? hp)
theorem ToN.lost {x : To} (h : ToN x) (f t : Nat) : 0 ≤ lsO x f t ∧ lsO x f t ≤ 200 := by
 have h1 := h.leg f t
 have h2 := h.s
 unfold lsO
 have h3 : ((lgO x f t).1 + x.shift - 1).tdiv x.shift ≤ (lgO x f t).1 + x.shift - 1 := by
  rw [Int.tdiv_eq_ediv_of_nonneg (by omega)]
  exact Int.ediv_le_self _ (by omega)
 have h4 : (lgO x f t).1 + x.shift - 1 ≤ 224 := by omega
 have h5 : ((lgO x f t).1 + x.shift - 1).tdiv x.shift ≤ 200 := by
  rw [Int.tdiv_eq_ediv_of_nonneg (by omega)]
  refine Int.ediv_le_of_le_mul (by omega) ?_
  have : 200 * x.shift ≥ 200 * 1 := Int.mul_le_mul_of_nonneg_left (by omega) (by omega)
  omega
 rw [imax_eq]
 omega
set_option maxHeartbeats 1000000 in
set_option maxRecDepth 100000 in
theorem lost_ok (x : Tr) (f t : Nat) (w : World) (h : TrIn x w) (hn : ToN x.d) (hf : f < x.T.length) (ht : t < x.T.length) :
 Calls Try.prog 72 #[x.v, iv f, iv t] w fun e w' => e = .returned (iv (lsO x.d f t)) ∧ Below w.heap.size w w' := by
 obtain ⟨days, shift, size, to, tc, T, lo, lc, L⟩ := x
 obtain ⟨h1, h2, h3, h4, htl, hll, hlr, -⟩ := h
 have hs := hn.s
 have hlg := hn.leg f t
 have hls := hn.lost f t
 have hl := hn.l
 have hn9 := hn.n
 have hr9 := hn.lr
 dsimp only [Tr.d] at h1 h2 h3 h4 htl hll hlr hf ht hs hl hn9 hr9 ⊢
 simp only [List.length_map] at hl hn9 hr9
 refine calls_val env mixed Try.func72 has72 Try.ntmps72 [.agg #[iv days, iv shift, iv size, .slice to T.length tc, .slice lo L.length lc], iv f, iv t] (by simp) ?_
 obtain ⟨⟨ro, rc, r⟩, hr⟩ : ∃ r, L[f]? = some r := ⟨_, List.getElem?_eq_getElem (by omega)⟩
 have hrl := hr9 r (List.mem_of_getElem? (i := f) (by rw [List.getElem?_map, hr]; rfl))
 obtain ⟨⟨p1, p2⟩, hp⟩ : ∃ p, r[t]? = some p := ⟨_, List.getElem?_eq_getElem (by omega)⟩
 have hrd := h4 _ (List.mem_of_getElem? hr)
 dsimp only at hrd
 obtain ⟨_, la, rfl, _⟩ := h3.ptr (by omega)
 obtain ⟨_, ra, rfl, _⟩ := hrd.ptr (by omega)
 have hlgo : lgO (Tr.d ⟨days, shift, size, to, tc, T, some la, lc, L⟩) f t = (p1, p2) := by
  simp only [lgO, Tr.d, List.getElem?_map, hr, Option.map_some, Option.getD_some, hp]
 have e1 := fun (w' : World) hw' => rd_ati (h3.below (w' := w') hw') hr
 have e2 := fun (w' : World) hw' => rd_fld (hrd.below (w' := w') hw') hp 0 (iv p1) rfl
 have hv : lsO (Tr.d ⟨days, shift, size, to, tc, T, some la, lc, L⟩) f t = imax 0 ((p1 + shift - 1).tdiv shift - 1) := by unfold lsO; rw [hlgo]
 rw [hlgo] at hlg
 have hq : 0 ≤ (p1 + shift - 1).tdiv shift ∧ (p1 + shift - 1).tdiv shift ≤ 300 := by
  rw [hv, imax_eq] at hls
  have := Int.tdiv_nonneg (a := p1 + shift - 1) (b := shift) (by omega) (by omega)
  omega
 rw [hv]
 generalize hqq : (p1 + shift - 1).tdiv shift = q at *
 repeat'
  conv => whnf
  first
   | refine zA ?_ | refine zB ?_ | refine zC ?_ | refine zD ?_ | refine zE ?_ | refine zF ?_ | refine zG ?_ | refine zH ?_ | refine zJ ?_ | refine zI ?_ | refine splT ?_ | refine splF ?_ | refine splNot ?_
   | ((first | refine splIn ?_ ?_ | refine splD ?_ ?_ | refine splE ?_ ?_ | refine splNE ?_ ?_) <;> intro hc <;> first | (exfalso; omega) | (exfalso; dsimp only at hc; omega) | skip)
   | refine Exists.intro (α := List Value) [.slice (some ra) r.length rc] ⟨⟨rfl, fun w' hw' => e1 w' hw'⟩, ?_⟩
   | refine Exists.intro (α := List Value) [iv p1] ⟨⟨rfl, fun w' hw' => e2 w' hw'⟩, ?_⟩
   | refine Exists.intro (α := Int) q ⟨⟨by omega, hqq, by constructor <;> omega⟩, ?_⟩
 all_goals first | (exfalso; omega) | exact ⟨fun β => rfl, fun w' h => h⟩
end Go.Proofs.Ythfabodamhdhaaa
namespace Go.Proofs.Ythfabodamhdhaaa
open Go Tx
noncomputable def body86 : Code := Try.f86.body.getD .skip
theorem has86 : Try.f86.body = some body86 := by kernel_rfl
noncomputable def body87 : Code := Try.f87.body.getD .skip
theorem has87 : Try.f87.body = some body87 := by kernel_rfl
noncomputable def body88 : Code := Try.f88.body.getD .skip
theorem has88 : Try.f88.body = some body88 := by kernel_rfl
noncomputable def body89 : Code := Try.f89.body.getD .skip
theorem has89 : Try.f89.body = some body89 := by kernel_rfl
noncomputable def body90 : Code := Try.f90.body.getD .skip
theorem has90 : Try.f90.body = some body90 := by kernel_rfl
noncomputable def body123 : Code := Try.f123.body.getD .skip
theorem has123 : Try.f123.body = some body123 := by kernel_rfl
noncomputable def body124 : Code := Try.f124.body.getD .skip
theorem has124 : Try.f124.body = some body124 := by kernel_rfl
noncomputable def body125 : Code := Try.f125.body.getD .skip
theorem has125 : Try.f125.body = some body125 := by kernel_rfl
noncomputable def body126 : Code := Try.f126.body.getD .skip
theorem has126 : Try.f126.body = some body126 := by kernel_rfl
noncomputable def body127 : Code := Try.f127.body.getD .skip
theorem has127 : Try.f127.body = some body127 := by kernel_rfl
noncomputable def body128 : Code := Try.f128.body.getD .skip
theorem has128 : Try.f128.body = some body128 := by kernel_rfl
noncomputable def body129 : Code := Try.f129.body.getD .skip
theorem has129 : Try.f129.body = some body129 := by kernel_rfl
noncomputable def body130 : Code := Try.f130.body.getD .skip
theorem has130 : Try.f130.body = some body130 := by kernel_rfl
noncomputable def body131 : Code := Try.f131.body.getD .skip
theorem has131 : Try.f131.body = some body131 := by kernel_rfl
noncomputable def body132 : Code := Try.f132.body.getD .skip
theorem has132 : Try.f132.body = some body132 := by kernel_rfl
noncomputable def body159 : Code := Try.f159.body.getD .skip
theorem has159 : Try.f159.body = some body159 := by kernel_rfl
noncomputable def body160 : Code := Try.f160.body.getD .skip
theorem has160 : Try.f160.body = some body160 := by kernel_rfl
noncomputable def body161 : Code := Try.f161.body.getD .skip
theorem has161 : Try.f161.body = some body161 := by kernel_rfl
noncomputable def body162 : Code := Try.f162.body.getD .skip
theorem has162 : Try.f162.body = some body162 := by kernel_rfl
noncomputable def body174 : Code := Try.f174.body.getD .skip
theorem has174 : Try.f174.body = some body174 := by kernel_rfl
end Go.Proofs.Ythfabodamhdhaaa
namespace Go.Proofs.Ythfabodamhdhaaa.Tx
open Go Go.RowKit
set_option linter.unusedSimpArgs false
set_option linter.unusedVariables false
theorem slLH {P : Program} (T : Env P) {dst : Option Tmp} {ty : TypeId} {pos : String} {after : Array Edge} {gd : Option (Nat × Bool)} {gs : List Nat} {σ : Sg} {K : Ef → Prop} {KF : Option KT} {t e n c a b : Nat} {x lo hi : Operand} {ad : Addr} {k k' : IntKind}
 {sz : Nat} {zr : List Value} {by_ : Nat} {ti : TI} (A : Option Addr) (hx : gv σ x = some (.v (.slice (some ad) n c))) (hl : gv σ lo = some (.v (.int k a))) (hh : gv σ hi = some (.v (.int k' b))) (ht : T.ty t = some ⟨sz, zr, by_, .slice e⟩) (he : T.ty e = some ti) (hz : a ≤ b) (hc : b ≤ c)
 (hA : (if c = a then some ad else some (ad.add (a * ti.size))) = A)
 (hB : efB σ ⟨.v (.slice A (b - a) (c - a)), [], [], gs ++ (os x ++ (os lo ++ os hi)), []⟩ = true) (hK : K ⟨.v (.slice A (b - a) (c - a)), [], [], gs ++ (os x ++ (os lo ++ os hi)), []⟩) : OpEvS P ⟨dst, .slice t x (some lo) (some hi) none, ty, pos, after, gd⟩ gs σ K KF := by
 refine .mk _ hB (fun k hk => by simp [hk]) rfl (runOK_pure fun β ac w hss => ?_) hK
 have e1 := gv_eval hss hx (fun k hk => by simp [hk])
 have e2 := gv_eval hss hl (fun k hk => by simp [hk])
 have e3 := gv_eval hss hh (fun k hk => by simp [hk])
 have hu := under_slice (T.tok t _ ht) rfl
 have hel : P.elem t = e := by simp [Program.elem, hu]
 have hu' : P.underlying t = some (.slice (P.elem t)) := by rw [hel]; exact hu
 have hsz := (T.tok e ti he).run_sizeOf w
 simp only [execOp, Option.map_some, Option.map_none, e1, e2, e3, SV.c, Sem.run_bind, Sem.run_pure, Result.andThen_ok]
 rw [run_sliceAt_slice w t _ _ _ _ hu', run_slice_lh w t _ _ _ hu' _ _ _ _ (by omega) (by omega) (by omega), hel, hsz]
 simp only [Result.andThen_ok, sliced, Int.toNat_natCast, Option.map_some]
 rw [hA]
end Go.Proofs.Ythfabodamhdhaaa.Tx
namespace Go.Proofs.Ythfabodamhdhaaa
open Go Tx Go.RowKit
set_option linter.unusedSimpArgs false
set_option linter.unusedVariables false
structure Mk where
 nd : Int
 pr : Int
 tr : Int
 op : Bool
abbrev mkF (m : Mk) : List Value := [iv m.nd, iv m.pr, iv m.tr, .bool m.op]
structure MkOk (m : Mk) : Prop where
 n : 0 ≤ m.nd ∧ m.nd ≤ 10000
 p : 0 ≤ m.pr ∧ m.pr ≤ 1000
 t : 0 ≤ m.tr ∧ m.tr ≤ 100000
structure RoadOk (D : List Mk) (K : Nat) : Prop where
 l : 1 ≤ D.length ∧ D.length ≤ 30
 k : 1 ≤ K ∧ K ≤ 10
 m : ∀ m ∈ D, MkOk m
structure RdR (o : Option Addr) (c : Nat) (D : List Mk) (w : World) : Prop where
 r : Rd 4 mkF (.slice o D.length c) D w
 c : D.length ≤ c
theorem RdR.below {o : Option Addr} {c : Nat} {D : List Mk} {w w' : World} (h : RdR o c D w) (hb : Below w.heap.size w w') : RdR o c D w' := ⟨h.r.below hb, h.c⟩
abbrev rdV (o : Option Addr) (n c : Nat) (K : Nat) : Value := .agg #[.slice o n c, iv K]
def pS (D : List Mk) : Nat → Int
 | 0 => 0
 | i + 1 => pS D i + (D[i]?).elim 0 Mk.nd
theorem pS_succ {D : List Mk} {i : Nat} {m : Mk} (h : D[i]? = some m) : pS D (i + 1) = pS D i + m.nd := by rw [pS, h]; rfl
theorem pS_step {D : List Mk} {K : Nat} (h : RoadOk D K) (i : Nat) : pS D i ≤ pS D (i + 1) ∧ pS D (i + 1) ≤ pS D i + 10000 := by
 rw [pS]
 cases hm : D[i]? with
 | none => simp only [Option.elim]; omega
 | some m =>
  have := (h.m m (List.mem_of_getElem? hm)).n
  simp only [Option.elim]; omega
theorem pS_mono {D : List Mk} {K : Nat} (h : RoadOk D K) (a : Nat) : ∀ k : Nat, pS D a ≤ pS D (a + k) ∧ pS D (a + k) ≤ pS D a + 10000 * k
 | 0 => by simp
 | k + 1 => by
  have ih := pS_mono h a k
  have := pS_step h (a + k)
  rw [← Nat.add_assoc]
  omega
theorem pS_le {D : List Mk} {K : Nat} (h : RoadOk D K) {a b : Nat} (hab : a ≤ b) (hb : b ≤ D.length) : 0 ≤ pS D b - pS D a ∧ pS D b - pS D a ≤ 300000 := by
 have := pS_mono h a (b - a)
 rw [show a + (b - a) = b from by omega] at this
 have := h.l
 omega
def mkA (D : List Mk) (i : Nat) : Mk := (D[i]?).getD ⟨0, 0, 0, false⟩
def prO (D : List Mk) (a b : Nat) : Int := (mkA D a).tr + (mkA D a).pr * (pS D b - pS D a)
def fdB (D : List Mk) (K a b : Nat) : Bool := decide (pS D b - pS D (min b (a + K)) = 0)
theorem pr_bd {D : List Mk} {K : Nat} (h : RoadOk D K) {a b : Nat} (hab : a ≤ b) (hb : b ≤ D.length) (ha : a < D.length) : 0 ≤ prO D a b ∧ prO D a b ≤ 300100000 ∧ 0 ≤ (mkA D a).pr * (pS D b - pS D a) ∧ (mkA D a).pr * (pS D b - pS D a) ≤ 300000000 ∧ (0 ≤ (mkA D a).tr ∧ (mkA D a).tr ≤ 100000) := by
 obtain ⟨m, hm⟩ : ∃ m, D[a]? = some m := ⟨_, List.getElem?_eq_getElem ha⟩
 have h1 := h.m m (List.mem_of_getElem? hm)
 have h2 := pS_le h hab hb
 have e : mkA D a = m := by unfold mkA; rw [hm]; rfl
 unfold prO
 rw [e]
 have h3 := h1.p
 have h4 := h1.t
 have h5 : 0 ≤ m.pr * (pS D b - pS D a) := Int.mul_nonneg h3.1 h2.1
 have h6 : m.pr * (pS D b - pS D a) ≤ 1000 * 300000 := Int.mul_le_mul h3.2 h2.2 h2.1 (by decide)
 omega
theorem win_ok (n lo hi : Int) (w : World) : Calls Try.prog 123 #[iv n, iv lo, iv hi] w fun e w' => e = .returned (.bool (inB n lo hi)) ∧ Below w.heap.size w w' := by
 refine calls_val env mixed Try.func123 has123 Try.ntmps123 [iv n, iv lo, iv hi] (by simp) ?_
 repeat'
  conv => whnf
  first
   | refine zA ?_ | refine zB ?_ | refine zC ?_ | refine zD ?_ | refine zE ?_ | refine zF ?_ | refine zG ?_ | refine zH ?_ | refine zJ ?_ | refine zI ?_ | refine splT ?_ | refine splF ?_ | refine splNot ?_
   | ((first | refine splIn ?_ ?_ | refine splD ?_ ?_ | refine splE ?_ ?_ | refine splNE ?_ ?_) <;> intro hc <;> first | (exfalso; omega) | (exfalso; dsimp only at hc; omega) | skip)
 all_goals exact ⟨fun β => congrArg Value.bool (by simp [inB, *]), fun w' h => h⟩
set_option maxHeartbeats 1000000 in
set_option maxRecDepth 100000 in
theorem need_ok (D : List Mk) (K : Nat) (o : Option Addr) (c : Nat) (a b : Nat) (w : World) (h : RdR o c D w) (hR : RoadOk D K) (hab : a ≤ b) (hb : b ≤ D.length) :
 Calls Try.prog 128 #[rdV o D.length c K, iv a, iv b] w fun e w' => e = .returned (iv (pS D b - pS D a)) ∧ Below w.heap.size w w' := by
 have hl := hR.l
 have hk := hR.k
 obtain ⟨h1, hc⟩ := h
 obtain ⟨_, ad, rfl, _⟩ := h1.ptr (by omega)
 obtain ⟨A, hA⟩ : ∃ A, (if c = a then some ad else some (ad.add (a * 4))) = A := ⟨_, rfl⟩
 obtain ⟨A2, rfl⟩ : ∃ a2, A = some a2 := by rw [← hA]; split <;> exact ⟨_, rfl⟩
 have hz : pS D (a + 0) - pS D a = 0 := by rw [Nat.add_zero]; omega
 have e0 : ∀ k m, k < b - a → D[a + k]? = some m → ∀ w', Below w.heap.size w w' → ∀ j u, (mkF m)[j]? = some u → w'.cell? ((A2.add ((k : Int).toNat * 4)).add j) = some u := fun k m hk hm w' hw' j u hu => by
  have h2 := rd_ati (h1.below (w' := w') hw') hm j u hu
  rw [if_neg (by omega), Option.some.injEq] at hA
  rw [← hA, Addr.add_add ad, Int.toNat_natCast, ← Nat.add_mul]
  exact h2
 refine calls_val env mixed Try.func128 has128 Try.ntmps128 [rdV (some ad) D.length c K, iv a, iv b] (by simp) ?_
 repeat'
  conv => whnf
  first
   | refine zA ?_ | refine zB ?_ | refine zC ?_ | refine zD ?_ | refine zE ?_ | refine zF ?_ | refine zG ?_ | refine zH ?_ | refine zJ ?_ | refine zI ?_ | refine splT ?_ | refine splF ?_ | refine splNot ?_
   | ((first | refine splIn ?_ ?_ | refine splD ?_ ?_ | refine splE ?_ ?_ | refine splNE ?_ ?_) <;> intro hc <;> first | (exfalso; omega) | (exfalso; dsimp only at hc; omega) | skip)
   | refine slLH env (some A2) rfl rfl rfl rfl rfl hab (by omega) hA rfl ?_
 refine loopE (fun k : Nat => [(6, .v (iv (pS D (a + k) - pS D a))), (13, .v (.slice (some A2) (b - a) (c - a))), (14, .v (iv ((b - a : Nat) : Int))), (15, .v (iv k))]) (fun _ => []) (fun k => k ≤ b - a) (fun k => b - a - k) 0 (Nat.zero_le _) ⟨by rw [hz]; rfl, rfl, rfl, rfl, trivial⟩ trivial (fun _ => ⟨rfl, rfl⟩) ?_
 intro k hkk
 rcases Nat.lt_or_ge k (b - a) with hkl | hkl
 · obtain ⟨⟨nd, pr, tr, op⟩, hm⟩ : ∃ m, D[a + k]? = some m := ⟨_, List.getElem?_eq_getElem (by omega)⟩
   have e1 := e0 k _ hkl hm
   have hs : pS D (a + k + 1) = pS D (a + k) + nd := pS_succ hm
   have h3 := pS_le hR (show a ≤ a + k by omega) (by omega)
   have h4 := (hR.m _ (List.mem_of_getElem? hm)).n
   have hst : pS D (a + (k + 1)) - pS D a = pS D (a + k) - pS D a + nd := by rw [← Nat.add_assoc, hs]; omega
   dsimp only at h4
   generalize pS D (a + k) - pS D a = q at *
   repeat'
    conv => whnf
    first
     | refine zA ?_ | refine zB ?_ | refine zC ?_ | refine zD ?_ | refine zE ?_ | refine zF ?_ | refine zG ?_ | refine zH ?_ | refine zJ ?_ | refine zI ?_ | refine splT ?_ | refine splF ?_ | refine splNot ?_
     | ((first | refine splIn ?_ ?_ | refine splD ?_ ?_ | refine splE ?_ ?_ | refine splNE ?_ ?_) <;> intro hc <;> first | (exfalso; omega) | (exfalso; dsimp only at hc; omega) | skip)
     | refine Exists.intro (α := List Value) [iv nd, iv pr, iv tr, .bool op] ⟨⟨rfl, fun w' hw' => e1 w' hw'⟩, ?_⟩
   all_goals first | (exfalso; omega) | exact ⟨k + 1, by omega, by omega, Ent.weak rfl ⟨by rw [hst]; rfl, rfl, rfl, rfl, trivial⟩ trivial fun _ h => h⟩
 · obtain rfl : k = b - a := by omega
   rw [show a + (b - a) = b from by omega]
   repeat'
    conv => whnf
    first
     | refine zA ?_ | refine zB ?_ | refine zC ?_ | refine zD ?_ | refine zE ?_ | refine zF ?_ | refine zG ?_ | refine zH ?_ | refine zJ ?_ | refine zI ?_ | refine splT ?_ | refine splF ?_ | refine splNot ?_
     | ((first | refine splIn ?_ ?_ | refine splD ?_ ?_ | refine splE ?_ ?_ | refine splNE ?_ ?_) <;> intro hc <;> first | (exfalso; omega) | (exfalso; dsimp only at hc; omega) | skip)
   all_goals first | (exfalso; omega) | exact ⟨fun β => rfl, fun w' h => h⟩
set_option maxHeartbeats 1000000 in
set_option maxRecDepth 100000 in
theorem price_ok (D : List Mk) (K : Nat) (o : Option Addr) (c : Nat) (a b : Nat) (w : World) (h : RdR o c D w) (hR : RoadOk D K) (hab : a ≤ b) (ha : a < D.length) (hb : b ≤ D.length) :
 Calls Try.prog 127 #[rdV o D.length c K, iv a, iv b] w fun e w' => e = .returned (iv (prO D a b)) ∧ Below w.heap.size w w' := by
 have hl := hR.l
 have hk := hR.k
 have h128 := fun w' hb2 => need_ok D K o c a b w' (h.below hb2) hR hab hb
 have hp := pr_bd hR hab hb ha
 have hn := pS_le hR hab hb
 obtain ⟨⟨nd, pr, tr, op⟩, hm⟩ : ∃ m, D[a]? = some m := ⟨_, List.getElem?_eq_getElem ha⟩
 have e : mkA D a = ⟨nd, pr, tr, op⟩ := by unfold mkA; rw [hm]; rfl
 unfold prO at hp ⊢
 rw [e] at hp ⊢
 dsimp only at hp ⊢
 obtain ⟨h1, hc⟩ := h
 obtain ⟨_, ad, rfl, _⟩ := h1.ptr (by omega)
 have e1 := fun (w' : World) hw' => rd_fld (h1.below (w' := w') hw') hm 1 (iv pr) rfl
 have e2 := fun (w' : World) hw' => rd_fld (h1.below (w' := w') hw') hm 2 (iv tr) rfl
 generalize pS D b - pS D a = q at *
 refine calls_val env mixed Try.func127 has127 Try.ntmps127 [.agg #[.slice (some ad) D.length c, iv K], iv a, iv b] (by simp) ?_
 repeat'
  conv => whnf
  first
   | refine zA ?_ | refine zB ?_ | refine zC ?_ | refine zD ?_ | refine zE ?_ | refine zF ?_ | refine zG ?_ | refine zH ?_ | refine zJ ?_ | refine zI ?_ | refine splT ?_ | refine splF ?_ | refine splNot ?_
   | ((first | refine splIn ?_ ?_ | refine splD ?_ ?_ | refine splE ?_ ?_ | refine splNE ?_ ?_) <;> intro hc <;> first | (exfalso; omega) | (exfalso; dsimp only at hc; omega) | skip)
   | refine Exists.intro (α := List Value) [iv pr] ⟨⟨rfl, fun w' hw' => e1 w' hw'⟩, ?_⟩
   | refine Exists.intro (α := List Value) [iv tr] ⟨⟨rfl, fun w' hw' => e2 w' hw'⟩, ?_⟩
   | ((with_reducible show CallEv _ _ 128 _ _ _ _ _); refine callE (k := 128) (fun β w' hbw => h128 w' hbw) ?_)
 all_goals first | (exfalso; omega) | exact ⟨fun β => rfl, fun w' h => h⟩
set_option maxHeartbeats 1000000 in
set_option maxRecDepth 100000 in
theorem feeds_ok (D : List Mk) (K : Nat) (o : Option Addr) (c : Nat) (a b : Nat) (w : World) (h : RdR o c D w) (hR : RoadOk D K) (hab : a ≤ b) (hb : b ≤ D.length) :
 Calls Try.prog 126 #[rdV o D.length c K, iv a, iv b] w fun e w' => e = .returned (.bool (fdB D K a b)) ∧ Below w.heap.size w w' := by
 have hl := hR.l
 have hk := hR.k
 have h128 := fun w' hb2 => need_ok D K o c (min b (a + K)) b w' (h.below hb2) hR (by omega) hb
 have hmin : imin (b : Int) ((a : Int) + K) = ((min b (a + K) : Nat) : Int) := by rw [imin_eq]; omega
 rw [← hmin] at h128
 unfold fdB
 generalize pS D b - pS D (min b (a + K)) = q at *
 refine calls_val env mixed Try.func126 has126 Try.ntmps126 [.agg #[.slice o D.length c, iv K], iv a, iv b] (by simp) ?_
 repeat'
  conv => whnf
  first
   | refine zA ?_ | refine zB ?_ | refine zC ?_ | refine zD ?_ | refine zE ?_ | refine zF ?_ | refine zG ?_ | refine zH ?_ | refine zJ ?_ | refine zI ?_ | refine splT ?_ | refine splF ?_ | refine splNot ?_
   | ((first | refine splIn ?_ ?_ | refine splD ?_ ?_ | refine splE ?_ ?_ | refine splNE ?_ ?_) <;> intro hc <;> first | (exfalso; omega) | (exfalso; dsimp only at hc; omega) | skip)
   | ((with_reducible show CallEv _ _ 128 _ _ _ _ _); refine callE (k := 128) (fun β w' hbw => h128 w' hbw) ?_)
 all_goals first | (exfalso; omega) | exact ⟨fun β => congrArg Value.bool (by first | rfl | simp), fun w' h => h⟩
end Go.Proofs.Ythfabodamhdhaaa
namespace Go.Proofs.Ythfabodamhdhaaa
open Go Tx Go.RowKit
set_option linter.unusedSimpArgs false
set_option linter.unusedVariables false
def mkB (m : Mk) : Bool := inB m.nd 0 10000 && (inB m.pr 0 1000 && inB m.tr 0 100000)
theorem tbn_ok (n : Int) (w : World) : Calls Try.prog 132 #[iv n] w fun e w' => e = .returned (.bool (inB n 0 1000000000)) ∧ Below w.heap.size w w' := by
 refine calls_val env mixed Try.func132 has132 Try.ntmps132 [iv n] (by simp) ?_
 have hv := fun w' => win_ok n 0 1000000000 w'
 repeat'
  conv => whnf
  first
   | refine zA ?_ | refine zB ?_ | refine zC ?_ | refine zD ?_ | refine zE ?_ | refine zF ?_ | refine zG ?_ | refine zH ?_ | refine zJ ?_ | refine zI ?_ | refine splT ?_ | refine splF ?_ | refine splNot ?_
   | ((first | refine splIn ?_ ?_ | refine splD ?_ ?_ | refine splE ?_ ?_ | refine splNE ?_ ?_) <;> intro hc <;> first | (exfalso; omega) | (exfalso; dsimp only at hc; omega) | skip)
   | ((with_reducible show CallEv _ _ 123 _ _ _ _ _); refine callE (k := 123) (fun β w' hbw => hv _) ?_)
 all_goals exact ⟨fun β => rfl, fun w' h => h⟩
theorem mk_ok (nd pr tr : Int) (op : Bool) (w : World) : Calls Try.prog 125 #[.agg #[iv nd, iv pr, iv tr, .bool op]] w fun e w' => e = .returned (.bool (mkB ⟨nd, pr, tr, op⟩)) ∧ Below w.heap.size w w' := by
 refine calls_val env mixed Try.func125 has125 Try.ntmps125 [.agg #[iv nd, iv pr, iv tr, .bool op]] (by simp) ?_
 repeat'
  conv => whnf
  first
   | refine zA ?_ | refine zB ?_ | refine zC ?_ | refine zD ?_ | refine zE ?_ | refine zF ?_ | refine zG ?_ | refine zH ?_ | refine zJ ?_ | refine zI ?_ | refine splT ?_ | refine splF ?_ | refine splNot ?_
   | ((first | refine splIn ?_ ?_ | refine splD ?_ ?_ | refine splE ?_ ?_ | refine splNE ?_ ?_) <;> intro hc <;> first | (exfalso; omega) | (exfalso; dsimp only at hc; omega) | skip)
   | ((with_reducible show CallEv _ _ 123 _ _ _ _ _); refine callE (k := 123) (fun β w' hbw => win_ok _ _ _ _) ?_)
 all_goals exact ⟨fun β => congrArg Value.bool (by simp [mkB, inB, *]), fun w' h => h⟩
set_option maxRecDepth 100000 in
theorem all131_ok (L : List (Int)) (o : Option Addr) (c : Nat) (w : World) (hrd : Rd 1 iF (.slice o L.length c) L w) (hl : L.length ≤ 1000000) :
 Calls Try.prog 131 #[.slice o L.length c, .func (.func 132) #[] #[]] w fun e w' => e = .returned (.bool (L.all (fun n : Int => inB n 0 1000000000))) ∧ Below w.heap.size w w' := by
 refine calls_val env mixed Try.func131 has131 Try.ntmps131 [.slice o L.length c, .func (.func 132) #[] #[]] (by simp) ?_
 repeat'
  conv => whnf
  first
   | refine zA ?_ | refine zB ?_ | refine zC ?_ | refine zD ?_ | refine zE ?_ | refine zF ?_ | refine zG ?_ | refine zH ?_ | refine zJ ?_ | refine zI ?_ | refine splT ?_ | refine splF ?_ | refine splNot ?_
   | ((first | refine splIn ?_ ?_ | refine splD ?_ ?_ | refine splE ?_ ?_ | refine splNE ?_ ?_) <;> intro hc <;> first | (exfalso; omega) | (exfalso; dsimp only at hc; omega) | skip)
   | ((with_reducible show CallEv _ _ 112 _ _ _ _ _); refine callI env mixed 1000 [] Try.func112 has112 Try.ntmps112 (Nat.le_of_ble_eq_true rfl) rfl rfl rfl ?_)
   | ((with_reducible show CallEv _ _ 156 _ _ _ _ _); refine callI env mixed 2000 [] Try.func156 has156 Try.ntmps156 (Nat.le_of_ble_eq_true rfl) rfl rfl rfl ?_)
 refine loopE (fun k : Nat => [(0, .v (.slice o L.length c)), (1, .fn (.func 162) [.ptr 0 0]), (7, .v (iv L.length)), (8, .v (iv k))]) (fun _ => [(0, .cells [.v (.func (.func 132) #[] #[])] 135)]) (fun k => k ≤ L.length ∧ (L.take k).all (fun n : Int => inB n 0 1000000000) = true) (fun k => L.length - k) 0 ⟨Nat.zero_le _, rfl⟩ ⟨rfl, rfl, rfl, rfl, trivial⟩ ⟨rfl, trivial⟩ (fun _ => ⟨rfl, rfl⟩) ?_
 intro k ⟨hk, hall⟩
 rcases Nat.lt_or_ge k L.length with hkl | hkl
 · obtain ⟨n, hb⟩ : ∃ b, L[k]? = some b := ⟨_, List.getElem?_eq_getElem hkl⟩
   obtain ⟨_, ad, rfl, _⟩ := hrd.ptr (by omega)
   have ht : (L.take (k + 1)).all (fun n : Int => inB n 0 1000000000) = (fun n : Int => inB n 0 1000000000) n := by rw [List.take_add_one, hb]; simp [hall]
   have e0 := fun (w' : World) hw' => rd_ati (hrd.below (w' := w') hw') hb
   have hv := fun w' => tbn_ok n w'
   obtain ⟨vb, hvb⟩ : ∃ vb, (fun n : Int => inB n 0 1000000000) n = vb := ⟨_, rfl⟩
   have hv' : ∀ w', Calls Try.prog 132 #[iv n] w' fun e w2 => e = .returned (.bool vb) ∧ Below w'.heap.size w' w2 := fun w' => by rw [← hvb]; exact hv w'
   clear hv
   cases vb with
   | true =>
    rw [hvb] at ht
    repeat'
     conv => whnf
     first
      | refine zA ?_ | refine zB ?_ | refine zC ?_ | refine zD ?_ | refine zE ?_ | refine zF ?_ | refine zG ?_ | refine zH ?_ | refine zJ ?_ | refine zI ?_ | refine splT ?_ | refine splF ?_ | refine splNot ?_
      | ((first | refine splIn ?_ ?_ | refine splD ?_ ?_ | refine splE ?_ ?_ | refine splNE ?_ ?_) <;> intro hc <;> first | (exfalso; omega) | (exfalso; dsimp only at hc; omega) | skip)
      | refine Exists.intro (α := List Value) [iv n] ⟨⟨rfl, fun w' hw' => e0 w' hw'⟩, ?_⟩
      | ((with_reducible show CallEv _ _ 162 _ _ _ _ _); refine callI env mixed 3000 [0,1,5,7,8] Try.func162 has162 Try.ntmps162 (Nat.le_of_ble_eq_true rfl) rfl rfl rfl ?_)
      | ((with_reducible show CallEv _ _ 132 _ _ _ _ _); refine callE (k := 132) (fun β w' hbw => hv' _) ?_)
    exact ⟨k + 1, ⟨by omega, ht⟩, by omega, Ent.weak rfl ⟨rfl, rfl, rfl, rfl, trivial⟩ ⟨rfl, trivial⟩ fun _ h => h⟩
   | false =>
    have hno : L.all (fun n : Int => inB n 0 1000000000) = false := by
     rw [List.all_eq_false]
     exact ⟨_, List.mem_of_getElem? hb, fun hc => absurd (hvb.symm.trans hc) (by decide)⟩
    rw [hno]
    repeat'
     conv => whnf
     first
      | refine zA ?_ | refine zB ?_ | refine zC ?_ | refine zD ?_ | refine zE ?_ | refine zF ?_ | refine zG ?_ | refine zH ?_ | refine zJ ?_ | refine zI ?_ | refine splT ?_ | refine splF ?_ | refine splNot ?_
      | ((first | refine splIn ?_ ?_ | refine splD ?_ ?_ | refine splE ?_ ?_ | refine splNE ?_ ?_) <;> intro hc <;> first | (exfalso; omega) | (exfalso; dsimp only at hc; omega) | skip)
      | refine Exists.intro (α := List Value) [iv n] ⟨⟨rfl, fun w' hw' => e0 w' hw'⟩, ?_⟩
      | ((with_reducible show CallEv _ _ 162 _ _ _ _ _); refine callI env mixed 3000 [0,1,5,7,8] Try.func162 has162 Try.ntmps162 (Nat.le_of_ble_eq_true rfl) rfl rfl rfl ?_)
      | ((with_reducible show CallEv _ _ 132 _ _ _ _ _); refine callE (k := 132) (fun β w' hbw => hv' _) ?_)
    all_goals first | exact ⟨fun β => rfl, fun w' h => h⟩ | (exfalso; omega)
 · rw [List.take_of_length_le hkl] at hall
   rw [hall]
   repeat'
    conv => whnf
    first
     | refine zA ?_ | refine zB ?_ | refine zC ?_ | refine zD ?_ | refine zE ?_ | refine zF ?_ | refine zG ?_ | refine zH ?_ | refine zJ ?_ | refine zI ?_ | refine splT ?_ | refine splF ?_ | refine splNot ?_
     | ((first | refine splIn ?_ ?_ | refine splD ?_ ?_ | refine splE ?_ ?_ | refine splNE ?_ ?_) <;> intro hc <;> first | (exfalso; omega) | (exfalso; dsimp only at hc; omega) | skip)
   all_goals first | exact ⟨fun β => rfl, fun w' h => h⟩ | (exfalso; omega)
set_option maxRecDepth 100000 in
theorem all124_ok (L : List (Mk)) (o : Option Addr) (c : Nat) (w : World) (hrd : Rd 4 mkF (.slice o L.length c) L w) (hl : L.length ≤ 1000000) :
 Calls Try.prog 124 #[.slice o L.length c, .func (.func 125) #[] #[]] w fun e w' => e = .returned (.bool (L.all mkB)) ∧ Below w.heap.size w w' := by
 refine calls_val env mixed Try.func124 has124 Try.ntmps124 [.slice o L.length c, .func (.func 125) #[] #[]] (by simp) ?_
 repeat'
  conv => whnf
  first
   | refine zA ?_ | refine zB ?_ | refine zC ?_ | refine zD ?_ | refine zE ?_ | refine zF ?_ | refine zG ?_ | refine zH ?_ | refine zJ ?_ | refine zI ?_ | refine splT ?_ | refine splF ?_ | refine splNot ?_
   | ((first | refine splIn ?_ ?_ | refine splD ?_ ?_ | refine splE ?_ ?_ | refine splNE ?_ ?_) <;> intro hc <;> first | (exfalso; omega) | (exfalso; dsimp only at hc; omega) | skip)
   | ((with_reducible show CallEv _ _ 159 _ _ _ _ _); refine callI env mixed 1000 [] Try.func159 has159 Try.ntmps159 (Nat.le_of_ble_eq_true rfl) rfl rfl rfl ?_)
   | ((with_reducible show CallEv _ _ 174 _ _ _ _ _); refine callI env mixed 2000 [] Try.func174 has174 Try.ntmps174 (Nat.le_of_ble_eq_true rfl) rfl rfl rfl ?_)
 refine loopE (fun k : Nat => [(0, .v (.slice o L.length c)), (1, .fn (.func 160) [.ptr 0 0]), (7, .v (iv L.length)), (8, .v (iv k))]) (fun _ => [(0, .cells [.v (.func (.func 125) #[] #[])] 186)]) (fun k => k ≤ L.length ∧ (L.take k).all mkB = true) (fun k => L.length - k) 0 ⟨Nat.zero_le _, rfl⟩ ⟨rfl, rfl, rfl, rfl, trivial⟩ ⟨rfl, trivial⟩ (fun _ => ⟨rfl, rfl⟩) ?_
 intro k ⟨hk, hall⟩
 rcases Nat.lt_or_ge k L.length with hkl | hkl
 · obtain ⟨⟨nd, pr, tr, op⟩, hb⟩ : ∃ b, L[k]? = some b := ⟨_, List.getElem?_eq_getElem hkl⟩
   obtain ⟨_, ad, rfl, _⟩ := hrd.ptr (by omega)
   have ht : (L.take (k + 1)).all mkB = mkB ⟨nd, pr, tr, op⟩ := by rw [List.take_add_one, hb]; simp [hall]
   have e0 := fun (w' : World) hw' => rd_ati (hrd.below (w' := w') hw') hb
   have hv := fun w' => mk_ok nd pr tr op w'
   obtain ⟨vb, hvb⟩ : ∃ vb, mkB ⟨nd, pr, tr, op⟩ = vb := ⟨_, rfl⟩
   have hv' : ∀ w', Calls Try.prog 125 #[.agg #[iv nd, iv pr, iv tr, .bool op]] w' fun e w2 => e = .returned (.bool vb) ∧ Below w'.heap.size w' w2 := fun w' => by rw [← hvb]; exact hv w'
   clear hv
   cases vb with
   | true =>
    rw [hvb] at ht
    repeat'
     conv => whnf
     first
      | refine zA ?_ | refine zB ?_ | refine zC ?_ | refine zD ?_ | refine zE ?_ | refine zF ?_ | refine zG ?_ | refine zH ?_ | refine zJ ?_ | refine zI ?_ | refine splT ?_ | refine splF ?_ | refine splNot ?_
      | ((first | refine splIn ?_ ?_ | refine splD ?_ ?_ | refine splE ?_ ?_ | refine splNE ?_ ?_) <;> intro hc <;> first | (exfalso; omega) | (exfalso; dsimp only at hc; omega) | skip)
      | refine Exists.intro (α := List Value) [iv nd, iv pr, iv tr, .bool op] ⟨⟨rfl, fun w' hw' => e0 w' hw'⟩, ?_⟩
      | ((with_reducible show CallEv _ _ 160 _ _ _ _ _); refine callI env mixed 3000 [0,1,5,7,8] Try.func160 has160 Try.ntmps160 (Nat.le_of_ble_eq_true rfl) rfl rfl rfl ?_)
      | ((with_reducible show CallEv _ _ 125 _ _ _ _ _); refine callE (k := 125) (fun β w' hbw => hv' _) ?_)
    exact ⟨k + 1, ⟨by omega, ht⟩, by omega, Ent.weak rfl ⟨rfl, rfl, rfl, rfl, trivial⟩ ⟨rfl, trivial⟩ fun _ h => h⟩
   | false =>
    have hno : L.all mkB = false := by
     rw [List.all_eq_false]
     exact ⟨_, List.mem_of_getElem? hb, fun hc => absurd (hvb.symm.trans hc) (by decide)⟩
    rw [hno]
    repeat'
     conv => whnf
     first
      | refine zA ?_ | refine zB ?_ | refine zC ?_ | refine zD ?_ | refine zE ?_ | refine zF ?_ | refine zG ?_ | refine zH ?_ | refine zJ ?_ | refine zI ?_ | refine splT ?_ | refine splF ?_ | refine splNot ?_
      | ((first | refine splIn ?_ ?_ | refine splD ?_ ?_ | refine splE ?_ ?_ | refine splNE ?_ ?_) <;> intro hc <;> first | (exfalso; omega) | (exfalso; dsimp only at hc; omega) | skip)
      | refine Exists.intro (α := List Value) [iv nd, iv pr, iv tr, .bool op] ⟨⟨rfl, fun w' hw' => e0 w' hw'⟩, ?_⟩
      | ((with_reducible show CallEv _ _ 160 _ _ _ _ _); refine callI env mixed 3000 [0,1,5,7,8] Try.func160 has160 Try.ntmps160 (Nat.le_of_ble_eq_true rfl) rfl rfl rfl ?_)
      | ((with_reducible show CallEv _ _ 125 _ _ _ _ _); refine callE (k := 125) (fun β w' hbw => hv' _) ?_)
    all_goals first | exact ⟨fun β => rfl, fun w' h => h⟩ | (exfalso; omega)
 · rw [List.take_of_length_le hkl] at hall
   rw [hall]
   repeat'
    conv => whnf
    first
     | refine zA ?_ | refine zB ?_ | refine zC ?_ | refine zD ?_ | refine zE ?_ | refine zF ?_ | refine zG ?_ | refine zH ?_ | refine zJ ?_ | refine zI ?_ | refine splT ?_ | refine splF ?_ | refine splNot ?_
     | ((first | refine splIn ?_ ?_ | refine splD ?_ ?_ | refine splE ?_ ?_ | refine splNE ?_ ?_) <;> intro hc <;> first | (exfalso; omega) | (exfalso; dsimp only at hc; omega) | skip)
   all_goals first | exact ⟨fun β => rfl, fun w' h => h⟩ | (exfalso; omega)
theorem mkB_ok {m : Mk} (h : MkOk m) : mkB m = true := by
 have h1 := h.n
 have h2 := h.p
 have h3 := h.t
 simp only [mkB, inB, Bool.and_eq_true, decide_eq_true_eq]
 omega
set_option maxRecDepth 100000 in
theorem rvalid_ok (D : List Mk) (K : Nat) (o : Option Addr) (c : Nat) (w : World) (h : RdR o c D w) (hR : RoadOk D K) :
 Calls Try.prog 86 #[rdV o D.length c K] w fun e w' => e = .returned (.bool true) ∧ Below w.heap.size w w' := by
 have hl := hR.l
 have hk := hR.k
 have hall : D.all mkB = true := List.all_eq_true.2 fun m hm => mkB_ok (hR.m m hm)
 have h124 := fun w' hb => all124_ok D o c w' (h.r.below hb) (by omega)
 rw [hall] at h124
 have e1 : inB (D.length : Int) 1 30 = true := by simp only [inB, Bool.and_eq_true, decide_eq_true_eq]; omega
 have e2 : inB (K : Int) 1 10 = true := by simp only [inB, Bool.and_eq_true, decide_eq_true_eq]; omega
 have h1 := fun w' => win_ok (D.length : Int) 1 30 w'
 have h2 := fun w' => win_ok (K : Int) 1 10 w'
 rw [e1] at h1
 rw [e2] at h2
 refine calls_val env mixed Try.func86 has86 Try.ntmps86 [.agg #[.slice o D.length c, iv K]] (by simp) ?_
 repeat'
  conv => whnf
  first
   | refine zA ?_ | refine zB ?_ | refine zC ?_ | refine zD ?_ | refine zE ?_ | refine zF ?_ | refine zG ?_ | refine zH ?_ | refine zJ ?_ | refine zI ?_ | refine splT ?_ | refine splF ?_ | refine splNot ?_
   | ((first | refine splIn ?_ ?_ | refine splD ?_ ?_ | refine splE ?_ ?_ | refine splNE ?_ ?_) <;> intro hc <;> first | (exfalso; omega) | (exfalso; dsimp only at hc; omega) | skip)
   | ((with_reducible show CallEv _ _ 123 [_, .v (.int .i64 1), .v (.int .i64 30)] _ _ _ _); refine callE (k := 123) (fun β w' hbw => h1 w') ?_)
   | ((with_reducible show CallEv _ _ 123 [_, .v (.int .i64 1), .v (.int .i64 10)] _ _ _ _); refine callE (k := 123) (fun β w' hbw => h2 w') ?_)
   | ((with_reducible show CallEv _ _ 124 _ _ _ _ _); refine callE (k := 124) (fun β w' hbw => h124 w' hbw) ?_)
 all_goals first | (exfalso; omega) | exact ⟨fun β => rfl, fun w' h => h⟩
def unO (n : Nat) (L : List Nat) (i : Nat) : Nat := if i + 1 < L.length then (L[i + 1]?).getD 0 else n
abbrev nF (n : Nat) : List Value := [iv n]
set_option maxRecDepth 100000 in
theorem until_ok (D : List Mk) (K : Nat) (o : Option Addr) (c : Nat) (L : List Nat) (po : Option Addr) (pc : Nat) (i : Nat) (w : World) (hL : Rd 1 nF (.slice po L.length pc) L w) (hll : L.length ≤ 1000) (hi : i < L.length) :
 Calls Try.prog 161 #[rdV o D.length c K, .slice po L.length pc, iv i] w fun e w' => e = .returned (iv (unO D.length L i)) ∧ Below w.heap.size w w' := by
 obtain ⟨_, ad, rfl, _⟩ := hL.ptr (by omega)
 refine calls_val env mixed Try.func161 has161 Try.ntmps161 [.agg #[.slice o D.length c, iv K], .slice (some ad) L.length pc, iv i] (by simp) ?_
 unfold unO
 by_cases h : i + 1 < L.length
 · obtain ⟨m, hm⟩ : ∃ m, L[i + 1]? = some m := ⟨_, List.getElem?_eq_getElem h⟩
   have e1 := fun (w' : World) hw' => rd_ati (hL.below (w' := w') hw') hm
   rw [if_pos h, hm]
   repeat'
    conv => whnf
    first
     | refine zA ?_ | refine zB ?_ | refine zC ?_ | refine zD ?_ | refine zE ?_ | refine zF ?_ | refine zG ?_ | refine zH ?_ | refine zJ ?_ | refine zI ?_ | refine splT ?_ | refine splF ?_ | refine splNot ?_
     | ((first | refine splIn ?_ ?_ | refine splD ?_ ?_ | refine splE ?_ ?_ | refine splNE ?_ ?_) <;> intro hc <;> first | (exfalso; omega) | (exfalso; dsimp only at hc; omega) | skip)
     | refine Exists.intro (α := List Value) [iv m] ⟨⟨rfl, fun w' hw' => e1 w' hw'⟩, ?_⟩
   all_goals first | (exfalso; omega) | exact ⟨fun β => rfl, fun w' h => h⟩
 · rw [if_neg h]
   repeat'
    conv => whnf
    first
     | refine zA ?_ | refine zB ?_ | refine zC ?_ | refine zD ?_ | refine zE ?_ | refine zF ?_ | refine zG ?_ | refine zH ?_ | refine zJ ?_ | refine zI ?_ | refine splT ?_ | refine splF ?_ | refine splNot ?_
     | ((first | refine splIn ?_ ?_ | refine splD ?_ ?_ | refine splE ?_ ?_ | refine splNE ?_ ?_) <;> intro hc <;> first | (exfalso; omega) | (exfalso; dsimp only at hc; omega) | skip)
   all_goals first | (exfalso; omega) | exact ⟨fun β => rfl, fun w' h => h⟩
end Go.Proofs.Ythfabodamhdhaaa
namespace Go.Proofs.Ythfabodamhdhaaa
open Go Tx Go.RowKit
set_option linter.unusedSimpArgs false
set_option linter.unusedVariables false
def rvB (x : Tw) (n : Int) : Bool := x.R.any fun r => inB n r.1 (r.2 + x.cold)
def dyO (x : Tw) (n : Int) : Int := if rvB x n = true then (x.pay * (1000 - x.cut)).tdiv 1000 else x.pay
structure TwN (x : Tw) : Prop where
 p : 0 ≤ x.pay ∧ x.pay ≤ 1000000
 t : 0 ≤ x.rent ∧ x.rent ≤ 1000000
 c : 0 ≤ x.cut ∧ x.cut ≤ 1000
 k : 0 ≤ x.cold ∧ x.cold ≤ 60
 l : 0 ≤ x.lot ∧ x.lot ≤ 100000
 s : 1 ≤ x.s1 ∧ x.s1 ≤ x.s2 ∧ x.s2 ≤ 10
 r : x.R.length ≤ 3 ∧ ∀ r ∈ x.R, -60 ≤ r.1 ∧ r.1 ≤ r.2 ∧ r.2 ≤ 60
 o : x.O.length ≤ 3
theorem TwN.of {days : Int} {x : Tw} (h : twB days x = true) : TwN x := by
 simp only [twB, inB, Bool.and_eq_true, decide_eq_true_eq, List.all_eq_true] at h
 obtain ⟨h1, h2, h3, h4, h5, h6, h7, h8, h9, h10⟩ := h
 exact ⟨by omega, by omega, by omega, by omega, by omega, by omega, ⟨h7, fun r hr => by have := h8 r hr; omega⟩, by omega⟩
theorem TwN.pc {x : Tw} (h : TwN x) : 0 ≤ x.pay * (1000 - x.cut) ∧ x.pay * (1000 - x.cut) ≤ 1000 * x.pay := by
 have h1 := h.p
 have h2 := h.c
 refine ⟨Int.mul_nonneg h1.1 (by omega), ?_⟩
 have := Int.mul_le_mul_of_nonneg_left (show 1000 - x.cut ≤ 1000 by omega) h1.1
 omega
theorem TwN.day {x : Tw} (h : TwN x) (n : Int) : 0 ≤ dyO x n ∧ dyO x n ≤ x.pay := by
 have h1 := h.p
 have h2 := h.pc
 unfold dyO
 split
 · rw [Int.tdiv_eq_ediv_of_nonneg h2.1]
   omega
 · omega
theorem any_take {α : Type} {p : α → Bool} {L : List α} {k : Nat} {x : α} (h : L[k]? = some x) : (L.take (k + 1)).any p = ((L.take k).any p || p x) := by
 rw [List.take_add_one, h]; simp
theorem any_yes {α : Type} {p : α → Bool} {L : List α} {k : Nat} {x : α} (h : L[k]? = some x) (hp : p x = true) : L.any p = true := List.any_eq_true.2 ⟨x, List.mem_of_getElem? h, hp⟩
set_option maxHeartbeats 2000000 in
set_option maxRecDepth 100000 in
theorem day_ok (t : Tn) (n : Int) (w : World) (h : TnIn t w) (hn : TwN t.d) (hb : -9000000000000 ≤ n ∧ n ≤ 9000000000000) :
 Calls Try.prog 71 #[.agg t.cs.toArray, iv n] w fun e w' => e = .returned (iv (dyO t.d n)) ∧ Below w.heap.size w w' := by
 obtain ⟨oo, oc, ro, rc, O, s1, s2, pay, lot, rent, R, cold, cut⟩ := t
 obtain ⟨-, h2, -, h4⟩ := h
 have hp := hn.p
 have hc := hn.c
 have hk := hn.k
 have hr := hn.r.2
 have hpc := hn.pc
 dsimp only at h2 h4 hp hc hk hr hpc ⊢
 refine calls_val env mixed Try.func71 has71 Try.ntmps71 [.agg #[.slice oo O.length oc, iv s1, iv s2, iv pay, iv lot, iv rent, .slice ro R.length rc, iv cold, iv cut], iv n] (by simp) ?_
 unfold dyO
 obtain ⟨q, hq⟩ : ∃ q, (pay * (1000 - cut)).tdiv 1000 = q := ⟨_, rfl⟩
 have hqb : 0 ≤ q ∧ q ≤ 1000000 := by
  rw [Int.tdiv_eq_ediv_of_nonneg hpc.1] at hq
  omega
 dsimp only
 rw [hq]
 generalize hpp : pay * (1000 - cut) = pp at *
 repeat'
  conv => whnf
  first
   | refine zA ?_ | refine zB ?_ | refine zC ?_ | refine zD ?_ | refine zE ?_ | refine zF ?_ | refine zG ?_ | refine zH ?_ | refine zJ ?_ | refine zI ?_ | refine splT ?_ | refine splF ?_ | refine splNot ?_
   | ((first | refine splIn ?_ ?_ | refine splD ?_ ?_ | refine splE ?_ ?_ | refine splNE ?_ ?_) <;> intro hc <;> first | (exfalso; omega) | (exfalso; dsimp only at hc; omega) | skip)
   | ((with_reducible show CallEv _ _ 106 _ _ _ _ _); refine callI env mixed 1000 [2] Try.func106 has106 Try.ntmps106 (Nat.le_of_ble_eq_true rfl) rfl rfl rfl ?_)
   | ((with_reducible show CallEv _ _ 143 _ _ _ _ _); refine callI env mixed 2000 [] Try.func143 has143 Try.ntmps143 (Nat.le_of_ble_eq_true rfl) rfl rfl rfl ?_)
 refine loopE (fun k : Nat => [(0, .v (.slice ro R.length rc)), (1, .fn (.func 107) [.ptr 1 0, .ptr 0 0]), (7, .v (iv R.length)), (8, .v (iv k))]) (fun _ => [(0, .cells [.v (.slice oo O.length oc), .v (iv s1), .v (iv s2), .v (iv pay), .v (iv lot), .v (iv rent), .v (.slice ro R.length rc), .v (iv cold), .v (iv cut)] 57), (1, .cells [.v (iv n)] 3)]) (fun k => k ≤ R.length ∧ ((R.take k).any fun r => inB n r.1 (r.2 + cold)) = false) (fun k => R.length - k) 0 ⟨Nat.zero_le _, rfl⟩ ⟨rfl, rfl, rfl, rfl, trivial⟩ ⟨rfl, rfl, trivial⟩ (fun _ => ⟨rfl, rfl⟩) ?_
 intro k ⟨hk, hall⟩
 rcases Nat.lt_or_ge k R.length with hkl | hkl
 · obtain ⟨⟨r1, r2⟩, hx⟩ : ∃ b, R[k]? = some b := ⟨_, List.getElem?_eq_getElem hkl⟩
   obtain ⟨_, ad, rfl, _⟩ := h2.ptr (by omega)
   have e0 := fun (w' : World) hw' => rd_ati (h2.below (w' := w') hw') hx
   have ht := any_take (p := fun r : Int × Int => inB n r.1 (r.2 + cold)) hx
   rw [hall, Bool.false_or] at ht
   have hrb := hr _ (List.mem_of_getElem? hx)
   dsimp only at hrb ht
   have hv := fun w' => within_ok n r1 (r2 + cold) w'
   cases hg : inB n r1 (r2 + cold) with
   | false =>
    rw [hg] at hv ht
    repeat'
     conv => whnf
     first
      | refine zA ?_ | refine zB ?_ | refine zC ?_ | refine zD ?_ | refine zE ?_ | refine zF ?_ | refine zG ?_ | refine zH ?_ | refine zJ ?_ | refine zI ?_ | refine splT ?_ | refine splF ?_ | refine splNot ?_
      | ((first | refine splIn ?_ ?_ | refine splD ?_ ?_ | refine splE ?_ ?_ | refine splNE ?_ ?_) <;> intro hc <;> first | (exfalso; omega) | (exfalso; dsimp only at hc; omega) | skip)
      | refine Exists.intro (α := List Value) [iv r1, iv r2] ⟨⟨rfl, fun w' hw' => e0 w' hw'⟩, ?_⟩
      | ((with_reducible show CallEv _ _ 107 _ _ _ _ _); refine callI env mixed 4000 [0,1,5,7,8] Try.func107 has107 Try.ntmps107 (Nat.le_of_ble_eq_true rfl) rfl rfl rfl ?_)
      | ((with_reducible show CallEv _ _ 70 _ _ _ _ _); refine callE (k := 70) (fun β w' hbw => hv _) ?_)
    all_goals first | (exfalso; omega) | exact ⟨k + 1, ⟨by omega, ht⟩, by omega, Ent.weak rfl ⟨rfl, rfl, rfl, rfl, trivial⟩ ⟨rfl, rfl, trivial⟩ fun _ h => h⟩
   | true =>
    rw [hg] at hv
    have hwr : pp = IntKind.i64.wrap (pay * (1000 - cut)) := by rw [hpp]; exact (IR.wrap (k := .i64) ⟨by omega, by omega⟩).symm
    rw [show rvB ⟨O, s1, s2, pay, lot, rent, R, cold, cut⟩ n = true from any_yes (p := fun r : Int × Int => inB n r.1 (r.2 + cold)) hx hg, if_pos rfl]
    repeat'
     conv => whnf
     first
      | refine zA ?_ | refine zB ?_ | refine zC ?_ | refine zD ?_ | refine zE ?_ | refine zF ?_ | refine zG ?_ | refine zH ?_ | refine zJ ?_ | refine zI ?_ | refine splT ?_ | refine splF ?_ | refine splNot ?_
      | ((first | refine splIn ?_ ?_ | refine splD ?_ ?_ | refine splE ?_ ?_ | refine splNE ?_ ?_) <;> intro hc <;> first | (exfalso; omega) | (exfalso; dsimp only at hc; omega) | skip)
      | refine Exists.intro (α := List Value) [iv r1, iv r2] ⟨⟨rfl, fun w' hw' => e0 w' hw'⟩, ?_⟩
      | ((with_reducible show CallEv _ _ 107 _ _ _ _ _); refine callI env mixed 4000 [0,1,5,7,8] Try.func107 has107 Try.ntmps107 (Nat.le_of_ble_eq_true rfl) rfl rfl rfl ?_)
      | ((with_reducible show CallEv _ _ 70 _ _ _ _ _); refine callE (k := 70) (fun β w' hbw => hv _) ?_)
      | refine Exists.intro (α := Int) q ⟨⟨by decide, by rw [hpp]; exact hq, by constructor <;> omega⟩, ?_⟩
    all_goals first | (exfalso; omega) | exact ⟨fun β => rfl, fun w' h => h⟩
 · rw [List.take_of_length_le hkl] at hall
   rw [show rvB ⟨O, s1, s2, pay, lot, rent, R, cold, cut⟩ n = false from hall, if_neg (by decide)]
   repeat'
    conv => whnf
    first
     | refine zA ?_ | refine zB ?_ | refine zC ?_ | refine zD ?_ | refine zE ?_ | refine zF ?_ | refine zG ?_ | refine zH ?_ | refine zJ ?_ | refine zI ?_ | refine splT ?_ | refine splF ?_ | refine splNot ?_
     | ((first | refine splIn ?_ ?_ | refine splD ?_ ?_ | refine splE ?_ ?_ | refine splNE ?_ ?_) <;> intro hc <;> first | (exfalso; omega) | (exfalso; dsimp only at hc; omega) | skip)
   all_goals first | (exfalso; omega) | exact ⟨fun β => rfl, fun w' h => h⟩
def gnS (x : Tw) (first : Int) : Nat → Int
 | 0 => 0
 | n + 1 => gnS x first n + (dyO x (first + n) - x.rent)
theorem TwN.gn {x : Tw} (h : TwN x) (first : Int) : ∀ n : Nat, -1000000 * (n : Int) ≤ gnS x first n ∧ gnS x first n ≤ 1000000 * (n : Int)
 | 0 => by simp [gnS]
 | n + 1 => by
  have ih := h.gn first n
  have h1 := h.day (first + n)
  have h2 := h.p
  have h3 := h.t
  simp only [gnS]
  omega
def gnO (x : To) (k : Nat) (first last : Int) : Int := match x.T[k]? with | some t => gnS t first (last + 1 - first).toNat | none => 0
set_option maxHeartbeats 2000000 in
set_option maxRecDepth 100000 in
theorem gain_ok (x : Tr) (k : Nat) (first last : Int) (w : World) (h : TrIn x w) (hn : ToN x.d) (hk1 : 1 ≤ k) (hk : k < x.T.length) (hf : -2000000000 ≤ first ∧ last ≤ 2000000000 ∧ first ≤ last + 1 ∧ last - first ≤ 1000) :
 Calls Try.prog 101 #[x.v, .agg #[iv k, iv first, iv last]] w fun e w' => e = .returned (iv (gnO x.d k first last)) ∧ Below w.heap.size w w' := by
 obtain ⟨t, ht⟩ : ∃ t, x.T[k]? = some t := ⟨_, List.getElem?_eq_getElem hk⟩
 have htd : x.d.T[k]? = some t.d := by simp only [Tr.d, List.getElem?_map, ht, Option.map_some]
 have htn := TwN.of (hn.t k hk1 _ htd)
 have hti := h.ti t (List.mem_of_getElem? ht)
 have h71 := fun d hd w' hb => day_ok t d w' (hti.below hb) htn hd
 have hgo : gnO x.d k first last = gnS t.d first (last + 1 - first).toNat := by unfold gnO; rw [htd]
 rw [hgo]
 have h1 := h.t
 have htl := h.tl
 obtain ⟨days, shift, size, to, tc, T, lo, lc, L⟩ := x
 dsimp only at h1 ht htl hk ⊢
 obtain ⟨oo, oc, ro, rc, O, s1, s2, pay, lot, rent, R, cold, cut⟩ := t
 have hgb := htn.gn first
 have hdb := htn.day
 have hpb := htn.p
 have hrb := htn.t
 dsimp only at h71 hgb hdb hpb hrb ⊢
 refine calls_val env mixed Try.func101 has101 Try.ntmps101 [.agg #[iv days, iv shift, iv size, .slice to T.length tc, .slice lo L.length lc], .agg #[iv k, iv first, iv last]] (by simp) ?_
 obtain ⟨_, ad, rfl, _⟩ := h1.ptr (by omega)
 have e0 := fun (w' : World) hw' => rd_ati (h1.below (w' := w') hw') ht
 obtain ⟨m, hm⟩ : ∃ m, (last + 1 - first).toNat = m := ⟨_, rfl⟩
 rw [hm]
 repeat'
  conv => whnf
  first
   | refine zA ?_ | refine zB ?_ | refine zC ?_ | refine zD ?_ | refine zE ?_ | refine zF ?_ | refine zG ?_ | refine zH ?_ | refine zJ ?_ | refine zI ?_ | refine splT ?_ | refine splF ?_ | refine splNot ?_
   | ((first | refine splIn ?_ ?_ | refine splD ?_ ?_ | refine splE ?_ ?_ | refine splNE ?_ ?_) <;> intro hc <;> first | (exfalso; omega) | (exfalso; dsimp only at hc; omega) | skip)
   | refine Exists.intro (α := List Value) [.slice oo O.length oc, iv s1, iv s2, iv pay, iv lot, iv rent, .slice ro R.length rc, iv cold, iv cut] ⟨⟨rfl, fun w' hw' => e0 w' hw'⟩, ?_⟩
 all_goals first | (exfalso; omega) | skip
 refine loopE (fun i : Nat => [(2, .ptr 0 0), (3, .ptr 1 0), (4, .v (iv (gnS ⟨O, s1, s2, pay, lot, rent, R, cold, cut⟩ first i))), (5, .ptr 2 0), (6, .v (iv (first + i)))]) (fun _ => [(0, .cells [.v (iv days), .v (iv shift), .v (iv size), .v (.slice (some ad) T.length tc), .v (.slice lo L.length lc)] 35), (1, .cells [.v (iv k), .v (iv first), .v (iv last)] 96), (2, .cells [.v (.slice oo O.length oc), .v (iv s1), .v (iv s2), .v (iv pay), .v (iv lot), .v (iv rent), .v (.slice ro R.length rc), .v (iv cold), .v (iv cut)] 57)]) (fun i => i ≤ m) (fun i => m - i) 0 (Nat.zero_le _) ⟨rfl, rfl, rfl, rfl, by simp; rfl, trivial⟩ ⟨rfl, rfl, rfl, trivial⟩ (fun _ => ⟨rfl, rfl⟩) ?_
 intro i hi
 have hgi := hgb i
 rcases Nat.lt_or_ge i m with hil | hil
 · have hs : gnS ⟨O, s1, s2, pay, lot, rent, R, cold, cut⟩ first (i + 1) = gnS ⟨O, s1, s2, pay, lot, rent, R, cold, cut⟩ first i + (dyO ⟨O, s1, s2, pay, lot, rent, R, cold, cut⟩ (first + i) - rent) := rfl
   have hdi := hdb (first + i)
   have hcl := h71 (first + i) (by omega)
   generalize gnS ⟨O, s1, s2, pay, lot, rent, R, cold, cut⟩ first i = A at *
   generalize dyO ⟨O, s1, s2, pay, lot, rent, R, cold, cut⟩ (first + i) = B at *
   repeat'
    conv => whnf
    first
     | refine zA ?_ | refine zB ?_ | refine zC ?_ | refine zD ?_ | refine zE ?_ | refine zF ?_ | refine zG ?_ | refine zH ?_ | refine zJ ?_ | refine zI ?_ | refine splT ?_ | refine splF ?_ | refine splNot ?_
     | ((first | refine splIn ?_ ?_ | refine splD ?_ ?_ | refine splE ?_ ?_ | refine splNE ?_ ?_) <;> intro hc <;> first | (exfalso; omega) | (exfalso; dsimp only at hc; omega) | skip)
     | ((with_reducible show CallEv _ _ 71 _ _ _ _ _); refine callE (k := 71) (fun β w' hbw => hcl w' hbw) ?_)
   all_goals first | (exfalso; omega) | exact ⟨i + 1, by omega, by omega, Ent.weak rfl ⟨rfl, rfl, by rw [hs]; rfl, rfl, by rw [Int.natCast_add, ← Int.add_assoc]; rfl, trivial⟩ ⟨rfl, rfl, rfl, trivial⟩ fun _ h => h⟩
 · obtain rfl : i = m := by omega
   repeat'
    conv => whnf
    first
     | refine zA ?_ | refine zB ?_ | refine zC ?_ | refine zD ?_ | refine zE ?_ | refine zF ?_ | refine zG ?_ | refine zH ?_ | refine zJ ?_ | refine zI ?_ | refine splT ?_ | refine splF ?_ | refine splNot ?_
     | ((first | refine splIn ?_ ?_ | refine splD ?_ ?_ | refine splE ?_ ?_ | refine splNE ?_ ?_) <;> intro hc <;> first | (exfalso; omega) | (exfalso; dsimp only at hc; omega) | skip)
   all_goals first | (exfalso; omega) | exact ⟨fun β => rfl, fun w' h => h⟩
theorem w64 (n : Nat) (h : n < 2 ^ 64) : IntKind.u64.wrap (n : Int) = n := IR.wrap (k := .u64) ⟨by omega, by omega⟩
theorem bv64 (n : Nat) : BitVec.ofInt 64 (n : Int) = BitVec.ofNat 64 n := by simp
theorem sh_l {t : Nat} (ht : t < 9) : IntKind.u64.wrap (1 * 2 ^ (min (t : Int).toNat IntKind.u64.bits)) = ((2 ^ t : Nat) : Int) := by
 have e : min (t : Int).toNat IntKind.u64.bits = t := by show min (t : Int).toNat 64 = t; omega
 rw [e, Int.one_mul, show (2 : Int) ^ t = ((2 ^ t : Nat) : Int) from by simp]
 exact w64 _ (Nat.pow_lt_pow_right (by decide) (by omega))
theorem or_l {S t : Nat} (hS : S < 512) (ht : t < 9) : IntKind.u64.wrap ((BitVec.ofInt IntKind.u64.bits (S : Int) ||| BitVec.ofInt IntKind.u64.bits ((2 ^ t : Nat) : Int)).toNat : Int) = ((S ||| 2 ^ t : Nat) : Int) := by
 have h1 : 2 ^ t < 2 ^ 9 := Nat.pow_lt_pow_right (by decide) ht
 have h2 : S ||| 2 ^ t < 2 ^ 9 := Nat.or_lt_two_pow (by omega) h1
 show IntKind.u64.wrap ((BitVec.ofInt 64 (S : Int) ||| BitVec.ofInt 64 ((2 ^ t : Nat) : Int)).toNat : Int) = _
 rw [bv64, bv64, BitVec.toNat_or, BitVec.toNat_ofNat, BitVec.toNat_ofNat, Nat.mod_eq_of_lt (by omega), Nat.mod_eq_of_lt (by omega)]
 exact w64 _ (by omega)
def btI (S t : Nat) : Int := if S.testBit t = true then 1 else 0
theorem sh_r {S t : Nat} (hS : S < 512) (ht : t < 9) : ((S : Int).fdiv (2 ^ (min (t : Int).toNat IntKind.u64.bits))) = ((S >>> t : Nat) : Int) := by
 have e : min (t : Int).toNat IntKind.u64.bits = t := by show min (t : Int).toNat 64 = t; omega
 rw [e, show (2 : Int) ^ t = ((2 ^ t : Nat) : Int) from by simp, Nat.shiftRight_eq_div_pow]
 rw [Int.fdiv_eq_ediv_of_nonneg _ (Int.natCast_nonneg _)]
 exact (Int.natCast_ediv S (2 ^ t)).symm
theorem and_l {S t : Nat} (hS : S < 512) : IntKind.u64.wrap ((BitVec.ofInt IntKind.u64.bits ((S >>> t : Nat) : Int) &&& BitVec.ofInt IntKind.u64.bits 1).toNat : Int) = btI S t := by
 have h1 : S >>> t ≤ S := Nat.shiftRight_le _ _
 show IntKind.u64.wrap ((BitVec.ofInt 64 ((S >>> t : Nat) : Int) &&& BitVec.ofInt 64 ((1 : Nat) : Int)).toNat : Int) = _
 rw [bv64, bv64, BitVec.toNat_and, BitVec.toNat_ofNat, BitVec.toNat_ofNat, Nat.mod_eq_of_lt (by omega), Nat.mod_eq_of_lt (by omega), Nat.and_one_is_mod]
 have h2 : S.testBit t = decide ((S >>> t) % 2 = 1) := by
  rw [Nat.testBit, Nat.one_and_eq_mod_two]
  rcases Nat.mod_two_eq_zero_or_one (S >>> t) with h | h <;> simp [h]
 unfold btI
 rw [h2, w64 _ (by omega)]
 rcases Nat.mod_two_eq_zero_or_one (S >>> t) with h | h <;> simp [h]
theorem cvU (t : Nat) (h : t < 1000000) : RunIs Try.prog (convert 3 116 (.int .i64 t)) (.int .u64 t) := fun w => by
 have h3 : IntKind.u64.wrap (t : Int) = t := w64 t (by omega)
 simp [convert, Conv.intToInt, Go.run_underlying under116 w, Go.run_underlying under3 w, h3]
set_option maxRecDepth 100000 in
theorem after_ok (S a d t f l : Nat) (w : World) (hS : S < 512) (ht : t < 9) (hl : l < 1000000) :
 Calls Try.prog 59 #[.agg #[.int .u64 S, iv a, iv d], .agg #[iv t, iv f, iv l]] w fun e w' => e = .returned (.agg #[.int .u64 ((S ||| 2 ^ t : Nat) : Int), iv t, iv (l + 1 : Nat)]) ∧ Below w.heap.size w w' := by
 refine calls_val env mixed Try.func59 has59 Try.ntmps59 [.agg #[.int .u64 S, iv a, iv d], .agg #[iv t, iv f, iv l]] (by simp) ?_
 have h1 := sh_l ht
 have h2 := or_l hS ht
 generalize hg : ((2 ^ t : Nat) : Int) = P at *
 generalize hg2 : ((S ||| 2 ^ t : Nat) : Int) = R at *
 repeat'
  conv => whnf
  first
   | refine zA ?_ | refine zB ?_ | refine zC ?_ | refine zD ?_ | refine zE ?_ | refine zF ?_ | refine zG ?_ | refine zH ?_ | refine zJ ?_ | refine zI ?_ | refine splT ?_ | refine splF ?_ | refine splNot ?_
   | ((first | refine splIn ?_ ?_ | refine splD ?_ ?_ | refine splE ?_ ?_ | refine splNE ?_ ?_) <;> intro hc <;> first | (exfalso; omega) | (exfalso; dsimp only at hc; omega) | skip)
   | refine Exists.intro (α := Value) (.int .u64 t) ⟨cvU t (by omega), ?_⟩
   | refine Exists.intro (α := Int) P ⟨⟨by omega, h1.symm⟩, ?_⟩
   | refine Exists.intro (α := Int) R ⟨h2.symm, ?_⟩
 all_goals first | (exfalso; omega) | exact ⟨fun β => rfl, fun w' h => h⟩
end Go.Proofs.Ythfabodamhdhaaa
namespace Go.Proofs.Ythfabodamhdhaaa
open Go Tx Go.RowKit
set_option linter.unusedSimpArgs false
set_option linter.unusedVariables false
def unp (n S : Nat) : Nat := ((List.range n).filter fun t => !(S.testBit (t + 1))).length
section
variable (x : To) (AL : Nat → Nat → List Nat)
def csO (x : To) (f t : Nat) : Int := (lgO x f t).2
def lsN (x : To) (f t : Nat) : Nat := (lsO x f t).toNat
def bgF (hm : Nat → Nat → Nat → Int) (S a : Nat) : Nat → Nat → Int
 | 0, _ => -1000000000000
 | m + 1, d => (AL a d).foldl (fun (n : Int) (l : Nat) => imax n (gnO x a d l + hm (S ||| 2 ^ a) a (l + 1))) (bgF hm S a m (d + 1))
def bsO (S a d : Nat) : Int := if S = 0 then 0 else if lsO x a 0 + d ≤ x.days then -csO x a 0 else -1000000000000
def hmF : Nat → Nat → Nat → Nat → Int
 | 0, S, a, d => bsO x S a d
 | k + 1, S, a, d => (List.range (x.T.length - 1)).foldl (fun (n : Int) (t : Nat) => if S.testBit (t + 1) = true then n else imax n (bgF x AL (hmF k) S (t + 1) (x.days.toNat - (d + lsN x a (t + 1))) (d + lsN x a (t + 1)) - csO x a (t + 1))) (bsO x S a d)
def hmO (S a d : Nat) : Int := hmF x AL (unp (x.T.length - 1) S) S a d
def bgO (S a d : Nat) : Int := bgF x AL (hmO x AL) S a (x.days.toNat - d) d
end
theorem unp_or {n S t : Nat} (ht : t < n) (hS : S.testBit (t + 1) = false) : unp n (S ||| 2 ^ (t + 1)) + 1 = unp n S := by
 have key : ∀ l : List Nat, l.Nodup → t ∈ l → (l.filter fun u => !((S ||| 2 ^ (t + 1)).testBit (u + 1))).length + 1 = (l.filter fun u => !(S.testBit (u + 1))).length := by
  intro l
  induction l with
  | nil => intro _ h; cases h
  | cons a l ih =>
   intro hn hm
   rw [List.nodup_cons] at hn
   by_cases ha : a = t
   · subst ha
     have e : (l.filter fun u => !((S ||| 2 ^ (a + 1)).testBit (u + 1))) = l.filter fun u => !(S.testBit (u + 1)) := List.filter_congr fun u hu => by
      have : u ≠ a := fun e => hn.1 (e ▸ hu)
      rw [Nat.testBit_or, Nat.testBit_two_pow, decide_eq_false (by omega), Bool.or_false]
     rw [List.filter_cons, List.filter_cons, e]
     simp [hS, Nat.testBit_or, Nat.testBit_two_pow]
   · rcases List.mem_cons.1 hm with h | h
     · exact absurd h.symm ha
     · have := ih hn.2 h
       rw [List.filter_cons, List.filter_cons]
       have e : (S ||| 2 ^ (t + 1)).testBit (a + 1) = S.testBit (a + 1) := by
        rw [Nat.testBit_or, Nat.testBit_two_pow, decide_eq_false (by omega), Bool.or_false]
       rw [e]
       split
       · simp only [List.length_cons]; omega
       · exact this
 exact key _ List.nodup_range (List.mem_range.2 ht)
theorem bgF_congr {x : To} {AL : Nat → Nat → List Nat} {hm hm' : Nat → Nat → Nat → Int} {S a : Nat} (h : ∀ d, hm (S ||| 2 ^ a) a d = hm' (S ||| 2 ^ a) a d) : ∀ m d, bgF x AL hm S a m d = bgF x AL hm' S a m d
 | 0, _ => rfl
 | m + 1, d => by
  simp only [bgF]
  rw [bgF_congr h m (d + 1)]
  congr 1
  funext n l
  rw [h]
theorem foldl_congr {α : Type} {f g : Int → α → Int} : ∀ {l : List α} {n : Int}, (∀ n, ∀ t ∈ l, f n t = g n t) → l.foldl f n = l.foldl g n
 | [], _, _ => rfl
 | a :: l, n, h => by
  rw [List.foldl_cons, List.foldl_cons, h n a (List.mem_cons_self ..)]
  exact foldl_congr fun n t ht => h n t (List.mem_cons_of_mem _ ht)
theorem hmO_eq (x : To) (AL : Nat → Nat → List Nat) (S a d : Nat) : hmO x AL S a d = (List.range (x.T.length - 1)).foldl (fun (n : Int) (t : Nat) => if S.testBit (t + 1) = true then n else imax n (bgO x AL S (t + 1) (d + lsN x a (t + 1)) - csO x a (t + 1))) (bsO x S a d) := by
 unfold hmO
 cases hu : unp (x.T.length - 1) S with
 | zero =>
  have hall : ∀ t ∈ List.range (x.T.length - 1), S.testBit (t + 1) = true := fun t ht => by
   cases hb : S.testBit (t + 1) with
   | true => rfl
   | false =>
    have := unp_or (List.mem_range.1 ht) hb
    omega
  have : ∀ (l : List Nat) (n : Int), (∀ t ∈ l, S.testBit (t + 1) = true) → l.foldl (fun (n : Int) (t : Nat) => if S.testBit (t + 1) = true then n else imax n (bgO x AL S (t + 1) (d + lsN x a (t + 1)) - csO x a (t + 1))) n = n := by
   intro l
   induction l with
   | nil => intro n _; rfl
   | cons t l ih =>
    intro n h
    rw [List.foldl_cons, if_pos (h t (List.mem_cons_self ..))]
    exact ih n fun u hu => h u (List.mem_cons_of_mem _ hu)
  rw [this _ _ hall]; rfl
 | succ k =>
  simp only [hmF]
  refine foldl_congr fun n t ht => ?_
  cases hb : S.testBit (t + 1) with
  | true => rw [if_pos rfl, if_pos rfl]
  | false =>
   rw [if_neg (by decide), if_neg (by decide)]
   have hu2 := unp_or (List.mem_range.1 ht) hb
   unfold bgO
   congr 2
   exact bgF_congr (fun d => by unfold hmO; rw [show unp (x.T.length - 1) (S ||| 2 ^ (t + 1)) = k from by omega]) _ _
theorem bgO_end (x : To) (AL : Nat → Nat → List Nat) (S a d : Nat) (h : x.days.toNat ≤ d) : bgO x AL S a d = -1000000000000 := by
 unfold bgO; rw [show x.days.toNat - d = 0 from by omega]; rfl
theorem bgO_step (x : To) (AL : Nat → Nat → List Nat) (S a d : Nat) (h : d < x.days.toNat) : bgO x AL S a d = (AL a d).foldl (fun (n : Int) (l : Nat) => imax n (gnO x a d l + hmO x AL (S ||| 2 ^ a) a (l + 1))) (bgO x AL S a (d + 1)) := by
 unfold bgO; rw [show x.days.toNat - d = (x.days.toNat - (d + 1)) + 1 from by omega]; rfl
def AlOk (x : To) (AL : Nat → Nat → List Nat) : Prop := ∀ a d, 1 ≤ a → a < x.T.length → ∀ l ∈ AL a d, d ≤ l ∧ l < d + 10 ∧ (l : Int) < x.days
theorem gn_bd {x : To} (h : ToN x) {a d l : Nat} (ha : 1 ≤ a) (hl : d ≤ l ∧ l < d + 10) : -10000000 ≤ gnO x a d l ∧ gnO x a d l ≤ 10000000 := by
 unfold gnO
 cases ht : x.T[a]? with
 | none => simp
 | some t =>
  have := (TwN.of (h.t a ha t ht)).gn d ((l : Int) + 1 - d).toNat
  dsimp only
  omega
theorem hm_bd {x : To} {AL : Nat → Nat → List Nat} (h : ToN x) (hA : AlOk x AL) : ∀ k S, unp (x.T.length - 1) S = k →
 (∀ a d, -1000000000000 ≤ hmO x AL S a d ∧ hmO x AL S a d ≤ 10000000 * (k : Int)) ∧ ∀ a d, 1 ≤ a → a < x.T.length → S.testBit a = false → -1000000000000 ≤ bgO x AL S a d ∧ bgO x AL S a d ≤ 10000000 * (k : Int) := by
 intro k
 induction k with
 | zero =>
  intro S hS
  have hbt : ∀ a, 1 ≤ a → a < x.T.length → S.testBit a = true := fun a h1 h2 => by
   cases hb : S.testBit a with
   | true => rfl
   | false =>
    have := unp_or (n := x.T.length - 1) (t := a - 1) (S := S) (by omega) (by rwa [show a - 1 + 1 = a from by omega])
    omega
  refine ⟨fun a d => ?_, fun a d h1 h2 h3 => by rw [hbt a h1 h2] at h3; cases h3⟩
  unfold hmO
  rw [hS]
  simp only [hmF, bsO]
  have hc := (h.leg a 0).2
  have : csO x a 0 = (lgO x a 0).2 := rfl
  split
  · omega
  · split <;> omega
 | succ k ih =>
  intro S hS
  have hB : ∀ a, 1 ≤ a → a < x.T.length → S.testBit a = false → ∀ m d, x.days.toNat - d = m → -1000000000000 ≤ bgO x AL S a d ∧ bgO x AL S a d ≤ 10000000 * ((k + 1 : Nat) : Int) := by
   intro a h1 h2 h3 m
   have hu := unp_or (n := x.T.length - 1) (t := a - 1) (S := S) (by omega) (by rwa [show a - 1 + 1 = a from by omega])
   rw [show a - 1 + 1 = a from by omega] at hu
   have hh := (ih (S ||| 2 ^ a) (by omega)).1
   induction m with
   | zero =>
    intro d hd
    rw [bgO_end x AL S a d (by omega)]
    omega
   | succ m ihm =>
    intro d hd
    rw [bgO_step x AL S a d (by omega)]
    have h0 := ihm (d + 1) (by omega)
    have hfold : ∀ (L : List Nat) (n : Int), (∀ l ∈ L, d ≤ l ∧ l < d + 10) → -1000000000000 ≤ n ∧ n ≤ 10000000 * ((k + 1 : Nat) : Int) →
     -1000000000000 ≤ L.foldl (fun (n : Int) (l : Nat) => imax n (gnO x a d l + hmO x AL (S ||| 2 ^ a) a (l + 1))) n ∧ L.foldl (fun (n : Int) (l : Nat) => imax n (gnO x a d l + hmO x AL (S ||| 2 ^ a) a (l + 1))) n ≤ 10000000 * ((k + 1 : Nat) : Int) := by
     intro L
     induction L with
     | nil => intro n _ hn; exact hn
     | cons l L ihL =>
      intro n hL hn
      rw [List.foldl_cons]
      refine ihL _ (fun l hl => hL l (List.mem_cons_of_mem _ hl)) ?_
      have g := gn_bd h h1 (hL l (List.mem_cons_self ..))
      have hx := hh a (l + 1)
      rw [imax_eq]
      omega
    exact hfold _ _ (fun l hl => ⟨(hA a d h1 h2 l hl).1, (hA a d h1 h2 l hl).2.1⟩) h0
  refine ⟨fun a d => ?_, fun a d h1 h2 h3 => hB a h1 h2 h3 _ d rfl⟩
  rw [hmO_eq]
  have hb0 : -1000000000000 ≤ bsO x S a d ∧ bsO x S a d ≤ 10000000 * ((k + 1 : Nat) : Int) := by
   have hc := (h.leg a 0).2
   have : csO x a 0 = (lgO x a 0).2 := rfl
   unfold bsO
   split
   · omega
   · split <;> omega
  have hfold : ∀ (L : List Nat) (n : Int), (∀ t ∈ L, t < x.T.length - 1) → -1000000000000 ≤ n ∧ n ≤ 10000000 * ((k + 1 : Nat) : Int) →
   -1000000000000 ≤ L.foldl (fun (n : Int) (t : Nat) => if S.testBit (t + 1) = true then n else imax n (bgO x AL S (t + 1) (d + lsN x a (t + 1)) - csO x a (t + 1))) n ∧ L.foldl (fun (n : Int) (t : Nat) => if S.testBit (t + 1) = true then n else imax n (bgO x AL S (t + 1) (d + lsN x a (t + 1)) - csO x a (t + 1))) n ≤ 10000000 * ((k + 1 : Nat) : Int) := by
   intro L
   induction L with
   | nil => intro n _ hn; exact hn
   | cons t L ihL =>
    intro n hL hn
    rw [List.foldl_cons]
    refine ihL _ (fun l hl => hL l (List.mem_cons_of_mem _ hl)) ?_
    cases hb : S.testBit (t + 1) with
    | true => rw [if_pos rfl]; exact hn
    | false =>
     rw [if_neg (by decide)]
     have := hB (t + 1) (by omega) (by have := hL t (List.mem_cons_self ..); omega) hb _ (d + lsN x a (t + 1)) rfl
     have hc := (h.leg a (t + 1)).2
     have : csO x a (t + 1) = (lgO x a (t + 1)).2 := rfl
     rw [imax_eq]
     omega
  exact hfold _ _ (fun t ht => List.mem_range.1 ht) hb0
theorem unp_le (n S : Nat) : unp n S ≤ n := by
 unfold unp
 have := List.length_filter_le (fun t => !(S.testBit (t + 1))) (List.range n)
 simpa using this
theorem hmO_bd {x : To} {AL : Nat → Nat → List Nat} (h : ToN x) (hA : AlOk x AL) (S a d : Nat) : -1000000000000 ≤ hmO x AL S a d ∧ hmO x AL S a d ≤ 100000000 := by
 have := (hm_bd h hA _ S rfl).1 a d
 have h1 := unp_le (x.T.length - 1) S
 have h2 := h.n
 omega
theorem bgO_bd {x : To} {AL : Nat → Nat → List Nat} (h : ToN x) (hA : AlOk x AL) (S a d : Nat) (h1 : 1 ≤ a) (h2 : a < x.T.length) (h3 : S.testBit a = false) : -1000000000000 ≤ bgO x AL S a d ∧ bgO x AL S a d ≤ 100000000 := by
 have := (hm_bd h hA _ S rfl).2 a d h1 h2 h3
 have h1 := unp_le (x.T.length - 1) S
 have h2 := h.n
 omega
end Go.Proofs.Ythfabodamhdhaaa
namespace Go.Proofs.Ythfabodamhdhaaa.Tx
open Go Go.RowKit
set_option linter.unusedSimpArgs false
set_option linter.unusedVariables false
theorem callWR {P : Program} {σ : Sg} {k : Nat} {args : List SV} {rs : List Nat} {K : Ef → Prop} {KF : Option KT} (rb : List Nat) (m1 : List (Nat × Blk)) (v : Value)
 (hB : efB σ ⟨.v v, [], m1, [], rb⟩ = true)
 (h : ∀ β w, (∀ i ∈ rb, ∀ b, lk σ.m i = some b → b.ok β w (β i)) → (∀ i ∈ rb, ∀ j ∈ rb, ∀ bi bj, lk σ.m i = some bi → lk σ.m j = some bj → bi.live = true → bj.live = true → i ≠ j → β i ≠ β j) →
  (∀ w', Chg (fun b => ∃ i ∈ rb, (∃ bk, lk σ.m i = some bk ∧ bk.live = true) ∧ β i = b) w w' → σ.h w') →
  Calls P k (SV.cs β args).toArray w fun e w' => e = .returned v ∧ Chg (fun b => ∃ i bk, (i, bk) ∈ m1 ∧ β i = b) w w' ∧ ∀ i b, (i, b) ∈ m1 → b.ok β w' (β i))
 (hK : K ⟨.v v, [], m1, rs, rb⟩) : CallEv P σ k args (efB σ) rs K KF :=
 .mk ⟨.v v, [], m1, [], rb⟩ hB (fun β w h1 h2 hst => (h β w h1 h2 hst).mono fun e w' ⟨he, hc, ho⟩ =>
  ⟨β, he, fun _ _ => rfl, ⟨hc.os, hc.tape, hc.output, hc.size, fun b hb hX => hc.same b hb fun ⟨i, bk, hm, hib⟩ => hX ⟨i, bk, hm, by simp, hib⟩⟩, ho, fun i hi => (by cases hi), fun i hi => (by cases hi)⟩) hK
end Go.Proofs.Ythfabodamhdhaaa.Tx
namespace Go.Proofs.Ythfabodamhdhaaa
open Go Tx Go.RowKit
set_option linter.unusedSimpArgs false
set_option linter.unusedVariables false
theorem zero3 (w : World) : (zeroValue 3).run Try.prog w = .ok (iv 0) w := by
 have h : (Try.prog.info? 3).map (fun i => i.zero) = some (some (iv 0)) := by kernel_rfl
 cases hi : Try.prog.info? 3 with
 | none => rw [hi] at h; cases h
 | some i =>
  rw [hi] at h
  simp only [Option.map_some, Option.some.injEq] at h
  simp [zeroValue, typeInfo, hi, h]
theorem max2_ok (p q : Int) (b c : Nat) (w : World) (h : Rd 1 iF (.slice (some ⟨b, 0, none⟩) 2 c) [p, q] w) :
 Calls Try.prog 98 #[.slice (some ⟨b, 0, none⟩) 2 c] w fun e w' => e = .returned (iv (imax p q)) ∧ Below w.heap.size w w' := by
 refine calls_val env mixed Try.func98 has98 Try.ntmps98 [.slice (some ⟨b, 0, none⟩) 2 c] (by simp) ?_
 have e0 := fun (w' : World) hw' => rd_atz (h.below (w' := w') hw') (k := 0) (b := p) rfl (0 : Int) rfl
 have e1 := fun (w' : World) hw' => rd_atz (h.below (w' := w') hw') (k := 1) (b := q) rfl (1 : Int) rfl
 repeat'
  conv => whnf
  first
   | refine zA ?_ | refine zB ?_ | refine zC ?_ | refine zD ?_ | refine zE ?_ | refine zF ?_ | refine zG ?_ | refine zH ?_ | refine zJ ?_ | refine zI ?_ | refine splT ?_ | refine splF ?_ | refine splNot ?_
   | ((first | refine splIn ?_ ?_ | refine splD ?_ ?_ | refine splE ?_ ?_ | refine splNE ?_ ?_) <;> intro hc <;> first | (exfalso; omega) | (exfalso; dsimp only at hc; omega) | skip)
   | ((with_reducible show CallEv _ _ 142 _ _ _ _ _); refine callI env mixed 1000 [] Try.func142 has142 Try.ntmps142 (Nat.le_of_ble_eq_true rfl) rfl rfl rfl ?_)
   | refine Exists.intro (α := List Value) [iv p] ⟨⟨rfl, fun w' hw' => e0 w' hw'⟩, ?_⟩
 all_goals first | (exfalso; omega) | skip
 refine loopE (fun k : Nat => [(0, .v (.slice (some ⟨b, 0, none⟩) 2 c)), (3, .v (iv (match k with | 0 => p | _ + 1 => imax p q))), (4, .v (iv ((k : Int) + 1)))]) (fun _ => []) (fun k => k ≤ 1) (fun k => 1 - k) 0 (Nat.zero_le _) ⟨rfl, rfl, rfl, trivial⟩ trivial (fun _ => ⟨rfl, rfl⟩) ?_
 intro k hk
 obtain rfl | rfl : k = 0 ∨ k = 1 := by omega
 · skip
   repeat'
    conv => whnf
    first
     | refine zA ?_ | refine zB ?_ | refine zC ?_ | refine zD ?_ | refine zE ?_ | refine zF ?_ | refine zG ?_ | refine zH ?_ | refine zJ ?_ | refine zI ?_ | refine splT ?_ | refine splF ?_ | refine splNot ?_
     | ((first | refine splIn ?_ ?_ | refine splD ?_ ?_ | refine splE ?_ ?_ | refine splNE ?_ ?_) <;> intro hc <;> first | (exfalso; omega) | (exfalso; dsimp only at hc; omega) | skip)
     | refine Exists.intro (α := List Value) [iv q] ⟨⟨rfl, fun w' hw' => e1 w' hw'⟩, ?_⟩
   all_goals first | (exfalso; omega) | exact ⟨1, by omega, by omega, Ent.weak rfl ⟨rfl, rfl, rfl, trivial⟩ trivial fun _ h => h⟩
 · skip
   repeat'
    conv => whnf
    first
     | refine zA ?_ | refine zB ?_ | refine zC ?_ | refine zD ?_ | refine zE ?_ | refine zF ?_ | refine zG ?_ | refine zH ?_ | refine zJ ?_ | refine zI ?_ | refine splT ?_ | refine splF ?_ | refine splNot ?_
     | ((first | refine splIn ?_ ?_ | refine splD ?_ ?_ | refine splE ?_ ?_ | refine splNE ?_ ?_) <;> intro hc <;> first | (exfalso; omega) | (exfalso; dsimp only at hc; omega) | skip)
   all_goals first | (exfalso; omega) | exact ⟨fun β => rfl, fun w' h => h⟩
theorem lsN_eq {x : To} (h : ToN x) (f t : Nat) : lsO x f t = (lsN x f t : Int) := by
 have := h.lost f t
 unfold lsN; omega
theorem lsN_le {x : To} (h : ToN x) (f t : Nat) : lsN x f t ≤ 200 := by
 have := h.lost f t
 unfold lsN; omega
set_option maxRecDepth 100000 in
theorem next_ok (x : Tr) (S a d t : Nat) (b : Nat) (w : World) (h : TrIn x w) (hn : ToN x.d) (ha : a < x.T.length) (ht : t < x.T.length) (hd : d ≤ 1000) (hc : ∀ j v, x.cs[j]? = some v → w.cell? ⟨b, j, none⟩ = some v) :
 Calls Try.prog 99 #[.pointer (some ⟨b, 0, none⟩), .agg #[.int .u64 S, iv a, iv d], iv t] w fun e w' => e = .returned (stK S t ((d + lsN x.d a t : Nat) : Int)) ∧ Below w.heap.size w w' := by
 have h72 := fun w' hb => lost_ok x a t w' (h.below hb) hn ha ht
 have hl := lsN_le hn a t
 rw [lsN_eq hn] at h72
 have he : ∀ w', Below w.heap.size w w' → ∀ j v, x.cs[j]? = some v → w'.cell? (((⟨b, 0, none⟩ : Addr).add 0).add j) = some v := fun w' hb j v hj => by
  rw [own_add, own_add, Nat.zero_add]
  exact ext_below hb (hc j v hj)
 generalize lsN x.d a t = g at *
 obtain ⟨days, shift, size, to, tc, T, lo, lc, L⟩ := x
 refine calls_val env mixed Try.func99 has99 Try.ntmps99 [.pointer (some ⟨b, 0, none⟩), .agg #[.int .u64 S, iv a, iv d], iv t] (by simp) ?_
 repeat'
  conv => whnf
  first
   | refine zA ?_ | refine zB ?_ | refine zC ?_ | refine zD ?_ | refine zE ?_ | refine zF ?_ | refine zG ?_ | refine zH ?_ | refine zJ ?_ | refine zI ?_ | refine splT ?_ | refine splF ?_ | refine splNot ?_
   | ((first | refine splIn ?_ ?_ | refine splD ?_ ?_ | refine splE ?_ ?_ | refine splNE ?_ ?_) <;> intro hc <;> first | (exfalso; omega) | (exfalso; dsimp only at hc; omega) | skip)
   | refine nilX rfl rfl ?_
   | refine Exists.intro (α := List Value) [iv days, iv shift, iv size, .slice to T.length tc, .slice lo L.length lc] ⟨⟨rfl, fun w' hw' => he w' hw'⟩, ?_⟩
   | ((with_reducible show CallEv _ _ 72 _ _ _ _ _); refine callE (k := 72) (fun β w' hbw => h72 w' hbw) ?_)
 all_goals first | (exfalso; omega) | exact ⟨fun β => by rw [Int.natCast_add]; rfl, fun w' h => h⟩
def stD (f : Nat → Nat → Nat → Int) : Value → Value
 | .agg c => match c.toList with
  | [.int _ s, .int _ a, .int _ d] => iv (f s.toNat a.toNat d.toNat)
  | _ => undef
 | _ => undef
theorem stD_at (f : Nat → Nat → Nat → Int) (S a d : Nat) : stD f (stK S a d) = iv (f S a d) := rfl
abbrev slF (a d l : Nat) : List Value := [iv a, iv d, iv l]
structure Alp where
 aa : Addr
 ra : Nat → Addr × Nat
 so : Nat → Nat → Option Addr × Nat
def AlIn (x : To) (AL : Nat → Nat → List Nat) (p : Alp) (w : World) : Prop := ∀ a, 1 ≤ a → a < x.T.length → w.cell? (p.aa.add (a * 1)) = some (.slice (some (p.ra a).1) x.days.toNat (p.ra a).2) ∧
 ∀ d, d < x.days.toNat → w.cell? ((p.ra a).1.add (d * 1)) = some (.slice (p.so a d).1 (AL a d).length (p.so a d).2) ∧ Rd 3 (slF a d) (.slice (p.so a d).1 (AL a d).length (p.so a d).2) (AL a d) w
section
variable (x : Tr) (AL : Nat → Nat → List Nat) (aa : Alp) (an ac b1 b2 : Nat)
abbrev MB : List (Nat × Blk) := [(4, .obj b1 (MpOk Try.prog 118 (stD (hmO x.d AL)))), (5, .obj b2 (MpOk Try.prog 118 (stD (bgO x.d AL)))), (0, .cells [.ptr 2 0] 114), (1, .cells [.v (.map (some b1))] 169),
 (2, .cells [.v (iv x.days), .v (iv x.shift), .v (iv x.size), .v (.slice x.to x.T.length x.tc), .v (.slice x.lo x.L.length x.lc), .v (.slice (some aa.aa) an ac), .fn (.func 97) [.ptr 1 0, .ptr 0 0], .fn (.func 100) [.ptr 0 0, .ptr 3 0]] 122), (3, .cells [.v (.map (some b2))] 169)]
abbrev Hp (w : World) : Prop := TrIn x w ∧ AlIn x.d AL aa w
structure PS (β : Nat → Nat) (w : World) : Prop where
 o : ∀ i b, lk (MB x AL aa an ac b1 b2) i = some b → b.ok β w (β i)
 inj : ∀ i j, i < 6 → j < 6 → i ≠ j → β i ≠ β j
def HomeC (S a d : Nat) : Prop := ∀ (β : Nat → Nat) (w : World), PS x AL aa an ac b1 b2 β w → (∀ w', Chg (fun b => ∃ i, i < 6 ∧ β i = b) w w' → Hp x AL aa w') →
 Calls Try.prog 97 #[stK S a d, .pointer (some ⟨β 1, 0, none⟩), .pointer (some ⟨β 0, 0, none⟩)] w fun e w' => e = .returned (iv (hmO x.d AL S a d)) ∧ Chg (fun b => b = b1 ∨ b = b2) w w' ∧ PS x AL aa an ac b1 b2 β w'
def BeginC (S a d : Nat) : Prop := ∀ (β : Nat → Nat) (w : World), PS x AL aa an ac b1 b2 β w → (∀ w', Chg (fun b => ∃ i, i < 6 ∧ β i = b) w w' → Hp x AL aa w') →
 Calls Try.prog 100 #[stK S a d, .pointer (some ⟨β 0, 0, none⟩), .pointer (some ⟨β 3, 0, none⟩)] w fun e w' => e = .returned (iv (bgO x.d AL S a d)) ∧ Chg (fun b => b = b1 ∨ b = b2) w w' ∧ PS x AL aa an ac b1 b2 β w'
end
section
variable {x : Tr} {AL : Nat → Nat → List Nat} {aa : Alp} {an ac b1 b2 : Nat}
theorem lkMB {i : Nat} {b : Blk} (h : lk (MB x AL aa an ac b1 b2) i = some b) : i < 6 ∧ b.live = true := by
 have hm := lk_mem h
 simp only [MB, List.mem_cons, Prod.mk.injEq, List.not_mem_nil, or_false] at hm
 rcases hm with ⟨rfl, rfl⟩ | ⟨rfl, rfl⟩ | ⟨rfl, rfl⟩ | ⟨rfl, rfl⟩ | ⟨rfl, rfl⟩ | ⟨rfl, rfl⟩ <;> exact ⟨by decide, rfl⟩
theorem MB_some {i : Nat} (h : i < 6) : ∃ b, lk (MB x AL aa an ac b1 b2) i = some b := by
 rcases (by omega : i = 0 ∨ i = 1 ∨ i = 2 ∨ i = 3 ∨ i = 4 ∨ i = 5) with rfl | rfl | rfl | rfl | rfl | rfl <;> exact ⟨_, rfl⟩
theorem calls_P {k : Nat} {fn : Func} {c : Code} (hfn : Try.prog.funcs[k]? = some fn) (hb : fn.body = some c) {nt : Nat} (hnt : fn.ntmps = nt) (args : List SV) (v : Value) (hlen : args.length ≤ nt) (hargs : SV.lts 6 args = true)
 (hvc : ∀ h : World → Prop, (∀ w', h w' → Hp x AL aa w') → vc env c ⟨nt, slotsOf 0 args, MB x AL aa an ac b1 b2, 6, h, ⟨pinG 6, [], 0⟩⟩ (endΦ env fn fun s σ => (∀ β, s.c β = v) ∧ MSub σ.m (MB x AL aa an ac b1 b2) ∧ (∀ w', σ.h w' → h w') ∧ σ.z.g = pinG 6))
 {β : Nat → Nat} {w : World} (hp : PS x AL aa an ac b1 b2 β w) (hst : ∀ w', Chg (fun b => ∃ i, i < 6 ∧ β i = b) w w' → Hp x AL aa w') :
 Calls Try.prog k (SV.cs β args).toArray w fun e w' => e = .returned v ∧ Chg (fun b => b = b1 ∨ b = b2) w w' ∧ PS x AL aa an ac b1 b2 β w' := by
 refine (calls_WS env mixed hfn hb hnt args (MB x AL aa an ac b1 b2) (MB x AL aa an ac b1 b2) 6 v hlen hargs rfl rfl (fun i b h => (lkMB h).2) (Hp := Hp x AL aa) hvc hp.o (fun i j bi bj hi hj hne => hp.inj i j (lkMB hi).1 (lkMB hj).1 hne) (fun w' hc => hst w' ⟨hc.os, hc.tape, hc.output, hc.size, fun b hbl hn => hc.same b hbl fun ⟨i, bk, h1, h2⟩ => hn ⟨i, (lkMB h1).1, h2⟩⟩)).mono
  fun e w' ⟨h1, h2, h3⟩ => ⟨h1, ⟨h2.os, h2.tape, h2.output, h2.size, fun b hbl hn => ?_⟩, ⟨h3, hp.inj⟩⟩
 by_cases hex : ∃ i bk, lk (MB x AL aa an ac b1 b2) i = some bk ∧ β i = b
 · obtain ⟨i, bk, hi, rfl⟩ := hex
   have q1 := hp.o i bk hi
   have q2 := h3 i bk hi
   have hm := lk_mem hi
   simp only [MB, List.mem_cons, Prod.mk.injEq, List.not_mem_nil, or_false] at hm
   rcases hm with ⟨rfl, rfl⟩ | ⟨rfl, rfl⟩ | ⟨rfl, rfl⟩ | ⟨rfl, rfl⟩ | ⟨rfl, rfl⟩ | ⟨rfl, rfl⟩
   · exact absurd (.inl q1.1) hn
   · exact absurd (.inr q1.1) hn
   all_goals (simp only [Blk.ok] at q1 q2; rw [q1, q2])
 · exact h2.same b hbl hex
theorem PS.chg {β : Nat → Nat} {w w' : World} (h : PS x AL aa an ac b1 b2 β w) (hc : Chg (fun b => b = b1 ∨ b = b2) w w') : Chg (fun b => ∃ i bk, (i, bk) ∈ [(4, Blk.obj b1 (MpOk Try.prog 118 (stD (hmO x.d AL)))), (5, Blk.obj b2 (MpOk Try.prog 118 (stD (bgO x.d AL))))] ∧ β i = b) w w' :=
 ⟨hc.os, hc.tape, hc.output, hc.size, fun b hb hn => hc.same b hb fun h2 => hn (by
  rcases h2 with rfl | rfl
  · exact ⟨4, _, List.mem_cons_self .., (h.o 4 _ rfl).1⟩
  · exact ⟨5, _, List.mem_cons_of_mem _ (List.mem_cons_self ..), (h.o 5 _ rfl).1⟩)⟩
theorem PS.out {β : Nat → Nat} {w : World} (h : PS x AL aa an ac b1 b2 β w) : ∀ i b, (i, b) ∈ [(4, Blk.obj b1 (MpOk Try.prog 118 (stD (hmO x.d AL)))), (5, Blk.obj b2 (MpOk Try.prog 118 (stD (bgO x.d AL))))] → b.ok β w (β i) := fun i b hm => by
 simp only [List.mem_cons, Prod.mk.injEq, List.not_mem_nil, or_false] at hm
 rcases hm with ⟨rfl, rfl⟩ | ⟨rfl, rfl⟩
 · exact h.o 4 _ rfl
 · exact h.o 5 _ rfl
theorem PS.of {σ : Sg} {β : Nat → Nat} {w : World} (hm : ∀ i, i < 6 → lk σ.m i = lk (MB x AL aa an ac b1 b2) i) (h1 : ∀ i ∈ [0, 1, 2, 3, 4, 5], ∀ b, lk σ.m i = some b → b.ok β w (β i))
 (h2 : ∀ i ∈ [0, 1, 2, 3, 4, 5], ∀ j ∈ [0, 1, 2, 3, 4, 5], ∀ bi bj, lk σ.m i = some bi → lk σ.m j = some bj → bi.live = true → bj.live = true → i ≠ j → β i ≠ β j) : PS x AL aa an ac b1 b2 β w := by
 have hmem : ∀ i, i < 6 → i ∈ [0, 1, 2, 3, 4, 5] := fun i hi => by simp; omega
 refine ⟨fun i b hi => h1 i (hmem i (lkMB hi).1) b (by rw [hm i (lkMB hi).1]; exact hi), fun i j hi hj hne => ?_⟩
 obtain ⟨bi, ei⟩ := MB_some (x := x) (AL := AL) (aa := aa) (an := an) (ac := ac) (b1 := b1) (b2 := b2) hi
 obtain ⟨bj, ej⟩ := MB_some (x := x) (AL := AL) (aa := aa) (an := an) (ac := ac) (b1 := b1) (b2 := b2) hj
 exact h2 i (hmem i hi) j (hmem j hj) bi bj (by rw [hm i hi]; exact ei) (by rw [hm j hj]; exact ej) (lkMB ei).2 (lkMB ej).2 hne
theorem six {p : Nat → Prop} (h0 : p 0) (h1 : p 1) (h2 : p 2) (h3 : p 3) (h4 : p 4) (h5 : p 5) : ∀ i, i < 6 → p i := fun i hi => by
 rcases (by omega : i = 0 ∨ i = 1 ∨ i = 2 ∨ i = 3 ∨ i = 4 ∨ i = 5) with rfl | rfl | rfl | rfl | rfl | rfl <;> assumption
theorem chg_six {σ : Sg} {β : Nat → Nat} {w w' : World} (hm : ∀ i, i < 6 → lk σ.m i = lk (MB x AL aa an ac b1 b2) i) (hc : Chg (fun b => ∃ i, i < 6 ∧ β i = b) w w') : Chg (fun b => ∃ i ∈ [0, 1, 2, 3, 4, 5], (∃ bk, lk σ.m i = some bk ∧ bk.live = true) ∧ β i = b) w w' :=
 ⟨hc.os, hc.tape, hc.output, hc.size, fun b hb hn => hc.same b hb fun ⟨i, hi, hib⟩ => hn (by
  obtain ⟨bi, ei⟩ := MB_some (x := x) (AL := AL) (aa := aa) (an := an) (ac := ac) (b1 := b1) (b2 := b2) hi
  exact ⟨i, by simp; omega, ⟨bi, by rw [hm i hi]; exact ei, (lkMB ei).2⟩, hib⟩)⟩
end
end Go.Proofs.Ythfabodamhdhaaa
namespace Go.Proofs.Ythfabodamhdhaaa
open Go Tx Go.RowKit
set_option linter.unusedSimpArgs false
set_option linter.unusedVariables false
theorem rd2 {p q : Int} {b c : Nat} {ty : TypeId} {w : World} (h : w.heap[b]? = some (.cells [iv p, iv q].toArray ty (0, 0))) : Rd 1 iF (.slice (some ⟨b, 0, none⟩) 2 c) [p, q] w := Rd.of_cells (f := iF) (bs := [p, q]) (fun _ => rfl) rfl h
theorem pl_at {b : Nat} {w : World} {x : Tr} {r : List Value} (h : w.heap[b]? = some (.cells (x.cs ++ r).toArray 122 (0, 0))) : ∀ j v, x.cs[j]? = some v → w.cell? ⟨b, j, none⟩ = some v := fun j v hj => by
 rw [cell_of_row w b _ _ 122 (0, 0) h, List.getElem?_toArray, List.getElem?_append_left (List.getElem?_eq_some_iff.1 hj).1]
 exact hj
theorem wfU {n : Nat} (h : n < 1000000) : (Lit.int .u64 n).wf = true := by
 simp [Lit.wf, IntKind.min, IntKind.max, IntKind.bits, IntKind.signed]; omega
theorem wfI {n : Nat} (h : n < 1000000) : (Lit.int .i64 n).wf = true := by
 simp [Lit.wf, IntKind.min, IntKind.max, IntKind.bits, IntKind.signed]; omega
set_option maxHeartbeats 4000000 in
set_option maxRecDepth 100000 in
theorem home_of (x : Tr) (AL : Nat → Nat → List Nat) (aa : Alp) (an ac b1 b2 : Nat) (S a d : Nat) (hn : ToN x.d) (hA : AlOk x.d AL) (hS : S < 512) (ha : a < x.T.length) (hd : d ≤ 100)
 (hB : ∀ t e, t + 1 < x.T.length → S.testBit (t + 1) = false → e ≤ 300 → BeginC x AL aa an ac b1 b2 S (t + 1) e) : HomeC x AL aa an ac b1 b2 S a d := by
 intro β w hp hst
 have hw0 := hst w (Chg.refl _ _)
 have hkey : ∃ kl, keyOf Try.prog 118 (stK S a d) = some kl := stK_key (wfU (by omega)) (wfI (by have := hn.n; simp [Tr.d] at this; omega)) (wfI (by omega))
 obtain ⟨kl, hkey⟩ := hkey
 have hHat := stD_at (hmO x.d AL) S a d
 have hbd := hmO_bd hn hA S a d
 have heq := hmO_eq x.d AL S a d
 have hbb := fun t h1 h2 h3 => fun e => bgO_bd hn hA S t e h1 h2 h3
 have h72 := fun w' (h : Hp x AL aa w') => lost_ok x a 0 w' h.1 hn ha (by have := hn.n; simp [Tr.d] at this; omega)
 have h99 := fun t ht w' b (h : Hp x AL aa w') hc => next_ok x S a d t b w' h.1 hn ha ht (by omega) hc
 have hls := fun t => lsN_le hn a t
 have hl0 := lsN_eq hn a 0
 have hleg := fun t => hn.leg a t
 have hnT := hn.n
 have hlT := hn.l
 have hlr := hn.lr
 have hbs : bsO x.d S a d = if S = 0 then 0 else if lsO x.d a 0 + d ≤ x.d.days then -csO x.d a 0 else -1000000000000 := rfl
 have hcs : ∀ t, csO x.d a t = (lgO x.d a t).2 := fun _ => rfl
 have hmS : (x.d.T.length) = x.T.length := List.length_map ..
 have hday := hn.d
 obtain ⟨days, shift, size, to, tc, T, lo, lc, L⟩ := x
 dsimp only [Tr.d] at hnT hlT hlr hday
 dsimp only at hB ha
 simp only [List.length_map] at hnT hlT hlr
 have hrowL : ∃ ra rc row, L[a]? = some ⟨some ra, rc, row⟩ ∧ row.length = T.length ∧ lo ≠ none ∧ to ≠ none ∧ ∀ w', Hp ⟨days, shift, size, to, tc, T, lo, lc, L⟩ AL aa w' → Rd 2 prF (.slice (some ra) T.length rc) row w' := by
  obtain ⟨⟨ro, rc, row⟩, hr⟩ : ∃ r, L[a]? = some r := ⟨_, List.getElem?_eq_getElem (by omega)⟩
  have hrl := (hlr row (List.mem_of_getElem? (i := a) (by rw [List.getElem?_map, hr]; rfl))).1
  have h1 := hw0.1.li _ (List.mem_of_getElem? hr)
  dsimp only at h1
  obtain ⟨_, ra, rfl, _⟩ := h1.ptr (show 1 ≤ row.length by omega)
  obtain ⟨_, la, rfl, _⟩ := hw0.1.l.ptr (show 1 ≤ L.length by omega)
  obtain ⟨_, ta, rfl, _⟩ := hw0.1.t.ptr (show 1 ≤ T.length by omega)
  refine ⟨ra, rc, row, hr, hrl, by simp, by simp, fun w' h => ?_⟩
  have := h.1.li _ (List.mem_of_getElem? hr)
  dsimp only at this
  rwa [hrl] at this
 obtain ⟨ra, rc, row, hrow, hrl, hlo, hto, hrd⟩ := hrowL
 obtain ⟨la, rfl⟩ := Option.ne_none_iff_exists'.1 hlo
 obtain ⟨ta, rfl⟩ := Option.ne_none_iff_exists'.1 hto
 have eL : ∀ w', Hp ⟨days, shift, size, some ta, tc, T, some la, lc, L⟩ AL aa w' → ∀ j v, [Value.slice (some ra) T.length rc][j]? = some v → w'.cell? ((la.add ((a : Int).toNat * 1)).add j) = some v := fun w' h => by
  have := rd_ati h.1.l hrow
  rw [show Lr.cs (⟨some ra, rc, row⟩ : Lr) = [Value.slice (some ra) T.length rc] from by show [Value.slice _ row.length _] = _; rw [hrl]] at this
  exact this
 have ec : ∀ (t : Nat), t < T.length → ∃ c, row[t]? = some c ∧ lgO (Tr.d ⟨days, shift, size, some ta, tc, T, some la, lc, L⟩) a t = c := fun t ht => by
  obtain ⟨c, hc⟩ : ∃ c, row[t]? = some c := ⟨_, List.getElem?_eq_getElem (by omega)⟩
  exact ⟨c, hc, by simp only [lgO, Tr.d, List.getElem?_map, hrow, Option.map_some, Option.getD_some, hc]⟩
 obtain ⟨⟨q1, q2⟩, hq, hq0⟩ := ec 0 (by omega)
 have hlq := hleg 0
 rw [hq0] at hlq
 have hcq := hcs 0
 rw [hq0] at hcq
 have eq0 : ∀ w', Hp ⟨days, shift, size, some ta, tc, T, some la, lc, L⟩ AL aa w' → ∀ j v, [iv q2][j]? = some v → w'.cell? (((ra.add ((0 : Int).toNat * 2)).add 1).add j) = some v := fun w' h => rd_fldz (hrd w' h) hq 0 rfl 1 (iv q2) rfl
 rw [hcq, hl0] at hbs
 rw [hl0] at h72
 simp only [Int.natCast_zero] at h72
 refine calls_P Try.func97 has97 Try.ntmps97 [.v (stK S a d), .ptr 1 0, .ptr 0 0] _ (by simp) rfl (fun h hh => ?_) hp hst
 unfold MB
 dsimp only
 have hs1 : ∀ (n : Int) (t : Nat), S.testBit (t + 1) = true → (if S.testBit (t + 1) = true then n else imax n (bgO (Tr.d ⟨days, shift, size, some ta, tc, T, some la, lc, L⟩) AL S (t + 1) (d + lsN (Tr.d ⟨days, shift, size, some ta, tc, T, some la, lc, L⟩) a (t + 1)) - csO (Tr.d ⟨days, shift, size, some ta, tc, T, some la, lc, L⟩) a (t + 1))) = n := fun n t h => if_pos h
 have hs2 : ∀ (n : Int) (t : Nat), S.testBit (t + 1) = false → (if S.testBit (t + 1) = true then n else imax n (bgO (Tr.d ⟨days, shift, size, some ta, tc, T, some la, lc, L⟩) AL S (t + 1) (d + lsN (Tr.d ⟨days, shift, size, some ta, tc, T, some la, lc, L⟩) a (t + 1)) - csO (Tr.d ⟨days, shift, size, some ta, tc, T, some la, lc, L⟩) a (t + 1))) = imax n (bgO (Tr.d ⟨days, shift, size, some ta, tc, T, some la, lc, L⟩) AL S (t + 1) (d + lsN (Tr.d ⟨days, shift, size, some ta, tc, T, some la, lc, L⟩) a (t + 1)) - csO (Tr.d ⟨days, shift, size, some ta, tc, T, some la, lc, L⟩) a (t + 1)) := fun n t h => if_neg (by rw [h]; decide)
 rw [hmS] at heq
 obtain ⟨st, hste⟩ : ∃ st : Int → Nat → Int, st = fun (n : Int) (t : Nat) => if S.testBit (t + 1) = true then n else imax n (bgO (Tr.d ⟨days, shift, size, some ta, tc, T, some la, lc, L⟩) AL S (t + 1) (d + lsN (Tr.d ⟨days, shift, size, some ta, tc, T, some la, lc, L⟩) a (t + 1)) - csO (Tr.d ⟨days, shift, size, some ta, tc, T, some la, lc, L⟩) a (t + 1)) := ⟨_, rfl⟩
 rw [← hste] at heq
 replace hs1 : ∀ (n : Int) (t : Nat), S.testBit (t + 1) = true → st n t = n := fun n t h => by rw [hste]; exact hs1 n t h
 replace hs2 : ∀ (n : Int) (t : Nat), S.testBit (t + 1) = false → st n t = imax n (bgO (Tr.d ⟨days, shift, size, some ta, tc, T, some la, lc, L⟩) AL S (t + 1) (d + lsN (Tr.d ⟨days, shift, size, some ta, tc, T, some la, lc, L⟩) a (t + 1)) - csO (Tr.d ⟨days, shift, size, some ta, tc, T, some la, lc, L⟩) a (t + 1)) := fun n t h => by rw [hste]; exact hs2 n t h
 clear hste
 have hl0' := hls 0
 generalize hg0 : lsN (Tr.d ⟨days, shift, size, some ta, tc, T, some la, lc, L⟩) a 0 = g0 at *
 by_cases hS0 : S = 0
 · skip
   have hb0 : bsO (Tr.d ⟨days, shift, size, some ta, tc, T, some la, lc, L⟩) S a d = 0 := by rw [hbs, if_pos hS0]
   rw [hb0] at heq
   repeat'
    conv => whnf
    first
     | refine zA ?_ | refine zB ?_ | refine zC ?_ | refine zD ?_ | refine zE ?_ | refine zF ?_ | refine zG ?_ | refine zH ?_ | refine zJ ?_ | refine zI ?_ | refine splT ?_ | refine splF ?_ | refine splNot ?_
     | ((first | refine splIn ?_ ?_ | refine splD ?_ ?_ | refine splE ?_ ?_ | refine splNE ?_ ?_) <;> intro hc <;> first | (exfalso; omega) | (exfalso; dsimp only at hc; omega) | skip)
     | refine lookS env (i := 4) law118 rfl rfl (fun β => rfl) rfl under169 zero3 hkey hHat ?_ ?_
     | refine nilE rfl rfl ?_
     | ((with_reducible show CallEv _ _ 72 _ _ _ _ _); refine callE (k := 72) (fun β w' hbw => h72 w' (hh w' hbw)) ?_)
     | refine Exists.intro (α := List Value) [.slice (some ra) T.length rc] ⟨⟨rfl, fun w' hw' => eL w' (hh w' hw')⟩, ?_⟩
     | refine Exists.intro (α := List Value) [iv q2] ⟨⟨rfl, fun w' hw' => eq0 w' (hh w' hw')⟩, ?_⟩
   all_goals first | (exfalso; omega) | exact ⟨fun β => rfl, ⟨rfl, rfl, rfl, rfl, rfl, rfl, trivial⟩, fun w' h => h, rfl⟩ | skip
   refine loopN 7 (fun i : Nat => [(1, .ptr 1 0), (2, .ptr 0 0), (3, .ptr 6 0), (7, .v (iv ((List.range i).foldl st (0)))), (8, .v (iv (i + 1 : Nat)))]) (fun _ => [(4, .obj b1 (MpOk Try.prog 118 (stD (hmO (Tr.d ⟨days, shift, size, some ta, tc, T, some la, lc, L⟩) AL)))), (5, .obj b2 (MpOk Try.prog 118 (stD (bgO (Tr.d ⟨days, shift, size, some ta, tc, T, some la, lc, L⟩) AL)))), (0, .cells [.ptr 2 0] 114), (1, .cells [.v (.map (some b1))] 169), (2, .cells [.v (iv days), .v (iv shift), .v (iv size), .v (.slice (some ta) T.length tc), .v (.slice (some la) L.length lc), .v (.slice (some aa.aa) an ac), .fn (.func 97) [.ptr 1 0, .ptr 0 0], .fn (.func 100) [.ptr 0 0, .ptr 3 0]] 122), (3, .cells [.v (.map (some b2))] 169), (6, .cells [.v (.int .u64 S), .v (iv a), .v (iv d)] 118)]) (fun i => i ≤ T.length - 1) (fun i => T.length - 1 - i) 0 (Nat.zero_le _) ⟨rfl, rfl, rfl, rfl, rfl, trivial⟩ ⟨rfl, rfl, rfl, rfl, rfl, rfl, rfl, trivial⟩ (fun _ _ => ⟨rfl, rfl⟩) ?_
   intro i hi
   have hfs : (List.range (i + 1)).foldl st (0) = st ((List.range i).foldl st (0)) i := by rw [List.range_succ, List.foldl_append]; rfl
   rcases Nat.lt_or_ge i (T.length - 1) with hil | hil
   · have hsr := sh_r (t := i + 1) hS (by omega)
     have hal := and_l (t := i + 1) hS
     cases hbt : S.testBit (i + 1) with
     | true =>
      rw [hs1 _ _ hbt] at hfs
      rw [show btI S (i + 1) = 1 from by unfold btI; rw [hbt]; rfl] at hal
      generalize (List.range i).foldl st (0) = N0 at *
      generalize ((S >>> (i + 1) : Nat) : Int) = SH at *
      repeat'
       conv => whnf
       first
        | refine zA ?_ | refine zB ?_ | refine zC ?_ | refine zD ?_ | refine zE ?_ | refine zF ?_ | refine zG ?_ | refine zH ?_ | refine zJ ?_ | refine zI ?_ | refine splT ?_ | refine splF ?_ | refine splNot ?_
        | ((first | refine splIn ?_ ?_ | refine splD ?_ ?_ | refine splE ?_ ?_ | refine splNE ?_ ?_) <;> intro hc <;> first | (exfalso; omega) | (exfalso; dsimp only at hc; omega) | skip)
        | refine Exists.intro (α := Value) (.int .u64 (i + 1 : Nat)) ⟨cvU (i + 1) (by omega), ?_⟩
        | refine Exists.intro (α := Int) SH ⟨⟨by omega, hsr.symm⟩, ?_⟩
        | refine Exists.intro (α := Int) 1 ⟨hal.symm, ?_⟩
        | refine nilE rfl rfl ?_
      all_goals first | (exfalso; omega) | exact ⟨i + 1, by omega, by omega, Ent.weak rfl ⟨rfl, rfl, rfl, by rw [hfs]; rfl, rfl, trivial⟩ ⟨rfl, rfl, rfl, rfl, rfl, rfl, rfl, trivial⟩ fun _ h => h⟩
     | false =>
      rw [hs2 _ _ hbt] at hfs
      rw [show btI S (i + 1) = 0 from by unfold btI; rw [hbt]; rfl] at hal
      obtain ⟨⟨p1, p2⟩, hpr, hpl⟩ := ec (i + 1) (by omega)
      have hlp := hleg (i + 1)
      rw [hpl] at hlp
      have hcp := hcs (i + 1)
      rw [hpl] at hcp
      rw [hcp] at hfs
      have hls1 := hls (i + 1)
      have hbbi := hbb (i + 1) (by omega) (by simp only [List.length_map]; omega) hbt (d + lsN (Tr.d ⟨days, shift, size, some ta, tc, T, some la, lc, L⟩) a (i + 1))
      have ep : ∀ w', Hp ⟨days, shift, size, some ta, tc, T, some la, lc, L⟩ AL aa w' → ∀ j v, [iv p2][j]? = some v → w'.cell? (((ra.add (((i + 1 : Nat) : Int).toNat * 2)).add 1).add j) = some v := fun w' h => rd_fldz (hrd w' h) hpr _ rfl 1 (iv p2) rfl
      generalize (List.range i).foldl st (0) = N0 at *
      generalize ((S >>> (i + 1) : Nat) : Int) = SH at *
      repeat'
       conv => whnf
       first
        | refine zA ?_ | refine zB ?_ | refine zC ?_ | refine zD ?_ | refine zE ?_ | refine zF ?_ | refine zG ?_ | refine zH ?_ | refine zJ ?_ | refine zI ?_ | refine splT ?_ | refine splF ?_ | refine splNot ?_
        | ((first | refine splIn ?_ ?_ | refine splD ?_ ?_ | refine splE ?_ ?_ | refine splNE ?_ ?_) <;> intro hc <;> first | (exfalso; omega) | (exfalso; dsimp only at hc; omega) | skip)
        | refine Exists.intro (α := Value) (.int .u64 (i + 1 : Nat)) ⟨cvU (i + 1) (by omega), ?_⟩
        | refine Exists.intro (α := Int) SH ⟨⟨by omega, hsr.symm⟩, ?_⟩
        | refine Exists.intro (α := Int) 0 ⟨hal.symm, ?_⟩
        | refine nilE rfl rfl ?_
        | ((with_reducible show CallEv _ _ 99 _ _ _ _ _); refine callM [2] (fun β w' hbk hbw => h99 (i + 1) (show i + 1 < T.length by omega) w' (β 2) (hh w' hbw) (pl_at (x := ⟨days, shift, size, some ta, tc, T, some la, lc, L⟩) (r := [.slice (some aa.aa) an ac, (SV.fn (.func 97) [.ptr 1 0, .ptr 0 0]).c β, (SV.fn (.func 100) [.ptr 0 0, .ptr 3 0]).c β]) (hbk 2 (by simp) _ rfl))) ?_)
        | ((with_reducible show CallEv _ _ 100 _ _ _ _ _); refine callWR [0, 1, 2, 3, 4, 5] [(4, .obj b1 (MpOk Try.prog 118 (stD (hmO (Tr.d ⟨days, shift, size, some ta, tc, T, some la, lc, L⟩) AL)))), (5, .obj b2 (MpOk Try.prog 118 (stD (bgO (Tr.d ⟨days, shift, size, some ta, tc, T, some la, lc, L⟩) AL))))] (iv (bgO (Tr.d ⟨days, shift, size, some ta, tc, T, some la, lc, L⟩) AL S (i + 1) (d + lsN (Tr.d ⟨days, shift, size, some ta, tc, T, some la, lc, L⟩) a (i + 1)))) rfl (fun β w' h1 h2 hs2 => (hB i (d + lsN (Tr.d ⟨days, shift, size, some ta, tc, T, some la, lc, L⟩) a (i + 1)) (by omega) hbt (by omega) β w' (PS.of (x := ⟨days, shift, size, some ta, tc, T, some la, lc, L⟩) (AL := AL) (aa := aa) (an := an) (ac := ac) (b1 := b1) (b2 := b2) (six rfl rfl rfl rfl rfl rfl) h1 h2) (fun w2 hc => hh w2 (hs2 w2 (chg_six (x := ⟨days, shift, size, some ta, tc, T, some la, lc, L⟩) (AL := AL) (aa := aa) (an := an) (ac := ac) (b1 := b1) (b2 := b2) (six rfl rfl rfl rfl rfl rfl) hc)))).mono fun e w2 ⟨e1, e2, e3⟩ => ⟨e1, (PS.of (x := ⟨days, shift, size, some ta, tc, T, some la, lc, L⟩) (AL := AL) (aa := aa) (an := an) (ac := ac) (b1 := b1) (b2 := b2) (six rfl rfl rfl rfl rfl rfl) h1 h2).chg e2, e3.out⟩) ?_)
        | refine Exists.intro (α := List Value) [.slice (some ra) T.length rc] ⟨⟨rfl, fun w' hw' => eL w' (hh w' hw')⟩, ?_⟩
        | refine Exists.intro (α := List Value) [iv p2] ⟨⟨rfl, fun w' hw' => ep w' (hh w' hw')⟩, ?_⟩
        | ((with_reducible show CallEv _ _ 98 _ _ _ _ _); refine callM [7] (fun β w' hbk hbw => max2_ok N0 (bgO (Tr.d ⟨days, shift, size, some ta, tc, T, some la, lc, L⟩) AL S (i + 1) (d + lsN (Tr.d ⟨days, shift, size, some ta, tc, T, some la, lc, L⟩) a (i + 1)) - p2) (β 7) 2 w' (rd2 (hbk 7 (by simp) _ rfl))) ?_)
      all_goals first | (exfalso; omega) | exact ⟨i + 1, by omega, by omega, Ent.weak rfl ⟨rfl, rfl, rfl, by rw [hfs]; rfl, rfl, trivial⟩ ⟨rfl, rfl, rfl, rfl, rfl, rfl, rfl, trivial⟩ fun _ h => h⟩
   · obtain rfl : i = T.length - 1 := by omega
     rw [← heq]
     repeat'
      conv => whnf
      first
       | refine zA ?_ | refine zB ?_ | refine zC ?_ | refine zD ?_ | refine zE ?_ | refine zF ?_ | refine zG ?_ | refine zH ?_ | refine zJ ?_ | refine zI ?_ | refine splT ?_ | refine splF ?_ | refine splNot ?_
       | ((first | refine splIn ?_ ?_ | refine splD ?_ ?_ | refine splE ?_ ?_ | refine splNE ?_ ?_) <;> intro hc <;> first | (exfalso; omega) | (exfalso; dsimp only at hc; omega) | skip)
       | refine updE env 4 law118 rfl rfl (fun β => rfl) rfl rfl under169 hkey hHat.symm rfl ?_
       | refine nilE rfl rfl ?_
     all_goals first | (exfalso; omega) | exact ⟨fun β => rfl, ⟨rfl, rfl, rfl, rfl, rfl, rfl, trivial⟩, fun w' h => h, rfl⟩
 by_cases hgo : (g0 : Int) + d ≤ days
 · skip
   have hb0 : bsO (Tr.d ⟨days, shift, size, some ta, tc, T, some la, lc, L⟩) S a d = -q2 := by rw [hbs, if_neg hS0, if_pos hgo]
   rw [hb0] at heq
   repeat'
    conv => whnf
    first
     | refine zA ?_ | refine zB ?_ | refine zC ?_ | refine zD ?_ | refine zE ?_ | refine zF ?_ | refine zG ?_ | refine zH ?_ | refine zJ ?_ | refine zI ?_ | refine splT ?_ | refine splF ?_ | refine splNot ?_
     | ((first | refine splIn ?_ ?_ | refine splD ?_ ?_ | refine splE ?_ ?_ | refine splNE ?_ ?_) <;> intro hc <;> first | (exfalso; omega) | (exfalso; dsimp only at hc; omega) | skip)
     | refine lookS env (i := 4) law118 rfl rfl (fun β => rfl) rfl under169 zero3 hkey hHat ?_ ?_
     | refine nilE rfl rfl ?_
     | ((with_reducible show CallEv _ _ 72 _ _ _ _ _); refine callE (k := 72) (fun β w' hbw => h72 w' (hh w' hbw)) ?_)
     | refine Exists.intro (α := List Value) [.slice (some ra) T.length rc] ⟨⟨rfl, fun w' hw' => eL w' (hh w' hw')⟩, ?_⟩
     | refine Exists.intro (α := List Value) [iv q2] ⟨⟨rfl, fun w' hw' => eq0 w' (hh w' hw')⟩, ?_⟩
   all_goals first | (exfalso; omega) | exact ⟨fun β => rfl, ⟨rfl, rfl, rfl, rfl, rfl, rfl, trivial⟩, fun w' h => h, rfl⟩ | skip
   refine loopN 7 (fun i : Nat => [(1, .ptr 1 0), (2, .ptr 0 0), (3, .ptr 6 0), (7, .v (iv ((List.range i).foldl st (-q2)))), (8, .v (iv (i + 1 : Nat)))]) (fun _ => [(4, .obj b1 (MpOk Try.prog 118 (stD (hmO (Tr.d ⟨days, shift, size, some ta, tc, T, some la, lc, L⟩) AL)))), (5, .obj b2 (MpOk Try.prog 118 (stD (bgO (Tr.d ⟨days, shift, size, some ta, tc, T, some la, lc, L⟩) AL)))), (0, .cells [.ptr 2 0] 114), (1, .cells [.v (.map (some b1))] 169), (2, .cells [.v (iv days), .v (iv shift), .v (iv size), .v (.slice (some ta) T.length tc), .v (.slice (some la) L.length lc), .v (.slice (some aa.aa) an ac), .fn (.func 97) [.ptr 1 0, .ptr 0 0], .fn (.func 100) [.ptr 0 0, .ptr 3 0]] 122), (3, .cells [.v (.map (some b2))] 169), (6, .cells [.v (.int .u64 S), .v (iv a), .v (iv d)] 118)]) (fun i => i ≤ T.length - 1) (fun i => T.length - 1 - i) 0 (Nat.zero_le _) ⟨rfl, rfl, rfl, rfl, rfl, trivial⟩ ⟨rfl, rfl, rfl, rfl, rfl, rfl, rfl, trivial⟩ (fun _ _ => ⟨rfl, rfl⟩) ?_
   intro i hi
   have hfs : (List.range (i + 1)).foldl st (-q2) = st ((List.range i).foldl st (-q2)) i := by rw [List.range_succ, List.foldl_append]; rfl
   rcases Nat.lt_or_ge i (T.length - 1) with hil | hil
   · have hsr := sh_r (t := i + 1) hS (by omega)
     have hal := and_l (t := i + 1) hS
     cases hbt : S.testBit (i + 1) with
     | true =>
      rw [hs1 _ _ hbt] at hfs
      rw [show btI S (i + 1) = 1 from by unfold btI; rw [hbt]; rfl] at hal
      generalize (List.range i).foldl st (-q2) = N0 at *
      generalize ((S >>> (i + 1) : Nat) : Int) = SH at *
      repeat'
       conv => whnf
       first
        | refine zA ?_ | refine zB ?_ | refine zC ?_ | refine zD ?_ | refine zE ?_ | refine zF ?_ | refine zG ?_ | refine zH ?_ | refine zJ ?_ | refine zI ?_ | refine splT ?_ | refine splF ?_ | refine splNot ?_
        | ((first | refine splIn ?_ ?_ | refine splD ?_ ?_ | refine splE ?_ ?_ | refine splNE ?_ ?_) <;> intro hc <;> first | (exfalso; omega) | (exfalso; dsimp only at hc; omega) | skip)
        | refine Exists.intro (α := Value) (.int .u64 (i + 1 : Nat)) ⟨cvU (i + 1) (by omega), ?_⟩
        | refine Exists.intro (α := Int) SH ⟨⟨by omega, hsr.symm⟩, ?_⟩
        | refine Exists.intro (α := Int) 1 ⟨hal.symm, ?_⟩
        | refine nilE rfl rfl ?_
      all_goals first | (exfalso; omega) | exact ⟨i + 1, by omega, by omega, Ent.weak rfl ⟨rfl, rfl, rfl, by rw [hfs]; rfl, rfl, trivial⟩ ⟨rfl, rfl, rfl, rfl, rfl, rfl, rfl, trivial⟩ fun _ h => h⟩
     | false =>
      rw [hs2 _ _ hbt] at hfs
      rw [show btI S (i + 1) = 0 from by unfold btI; rw [hbt]; rfl] at hal
      obtain ⟨⟨p1, p2⟩, hpr, hpl⟩ := ec (i + 1) (by omega)
      have hlp := hleg (i + 1)
      rw [hpl] at hlp
      have hcp := hcs (i + 1)
      rw [hpl] at hcp
      rw [hcp] at hfs
      have hls1 := hls (i + 1)
      have hbbi := hbb (i + 1) (by omega) (by simp only [List.length_map]; omega) hbt (d + lsN (Tr.d ⟨days, shift, size, some ta, tc, T, some la, lc, L⟩) a (i + 1))
      have ep : ∀ w', Hp ⟨days, shift, size, some ta, tc, T, some la, lc, L⟩ AL aa w' → ∀ j v, [iv p2][j]? = some v → w'.cell? (((ra.add (((i + 1 : Nat) : Int).toNat * 2)).add 1).add j) = some v := fun w' h => rd_fldz (hrd w' h) hpr _ rfl 1 (iv p2) rfl
      generalize (List.range i).foldl st (-q2) = N0 at *
      generalize ((S >>> (i + 1) : Nat) : Int) = SH at *
      repeat'
       conv => whnf
       first
        | refine zA ?_ | refine zB ?_ | refine zC ?_ | refine zD ?_ | refine zE ?_ | refine zF ?_ | refine zG ?_ | refine zH ?_ | refine zJ ?_ | refine zI ?_ | refine splT ?_ | refine splF ?_ | refine splNot ?_
        | ((first | refine splIn ?_ ?_ | refine splD ?_ ?_ | refine splE ?_ ?_ | refine splNE ?_ ?_) <;> intro hc <;> first | (exfalso; omega) | (exfalso; dsimp only at hc; omega) | skip)
        | refine Exists.intro (α := Value) (.int .u64 (i + 1 : Nat)) ⟨cvU (i + 1) (by omega), ?_⟩
        | refine Exists.intro (α := Int) SH ⟨⟨by omega, hsr.symm⟩, ?_⟩
        | refine Exists.intro (α := Int) 0 ⟨hal.symm, ?_⟩
        | refine nilE rfl rfl ?_
        | ((with_reducible show CallEv _ _ 99 _ _ _ _ _); refine callM [2] (fun β w' hbk hbw => h99 (i + 1) (show i + 1 < T.length by omega) w' (β 2) (hh w' hbw) (pl_at (x := ⟨days, shift, size, some ta, tc, T, some la, lc, L⟩) (r := [.slice (some aa.aa) an ac, (SV.fn (.func 97) [.ptr 1 0, .ptr 0 0]).c β, (SV.fn (.func 100) [.ptr 0 0, .ptr 3 0]).c β]) (hbk 2 (by simp) _ rfl))) ?_)
        | ((with_reducible show CallEv _ _ 100 _ _ _ _ _); refine callWR [0, 1, 2, 3, 4, 5] [(4, .obj b1 (MpOk Try.prog 118 (stD (hmO (Tr.d ⟨days, shift, size, some ta, tc, T, some la, lc, L⟩) AL)))), (5, .obj b2 (MpOk Try.prog 118 (stD (bgO (Tr.d ⟨days, shift, size, some ta, tc, T, some la, lc, L⟩) AL))))] (iv (bgO (Tr.d ⟨days, shift, size, some ta, tc, T, some la, lc, L⟩) AL S (i + 1) (d + lsN (Tr.d ⟨days, shift, size, some ta, tc, T, some la, lc, L⟩) a (i + 1)))) rfl (fun β w' h1 h2 hs2 => (hB i (d + lsN (Tr.d ⟨days, shift, size, some ta, tc, T, some la, lc, L⟩) a (i + 1)) (by omega) hbt (by omega) β w' (PS.of (x := ⟨days, shift, size, some ta, tc, T, some la, lc, L⟩) (AL := AL) (aa := aa) (an := an) (ac := ac) (b1 := b1) (b2 := b2) (six rfl rfl rfl rfl rfl rfl) h1 h2) (fun w2 hc => hh w2 (hs2 w2 (chg_six (x := ⟨days, shift, size, some ta, tc, T, some la, lc, L⟩) (AL := AL) (aa := aa) (an := an) (ac := ac) (b1 := b1) (b2 := b2) (six rfl rfl rfl rfl rfl rfl) hc)))).mono fun e w2 ⟨e1, e2, e3⟩ => ⟨e1, (PS.of (x := ⟨days, shift, size, some ta, tc, T, some la, lc, L⟩) (AL := AL) (aa := aa) (an := an) (ac := ac) (b1 := b1) (b2 := b2) (six rfl rfl rfl rfl rfl rfl) h1 h2).chg e2, e3.out⟩) ?_)
        | refine Exists.intro (α := List Value) [.slice (some ra) T.length rc] ⟨⟨rfl, fun w' hw' => eL w' (hh w' hw')⟩, ?_⟩
        | refine Exists.intro (α := List Value) [iv p2] ⟨⟨rfl, fun w' hw' => ep w' (hh w' hw')⟩, ?_⟩
        | ((with_reducible show CallEv _ _ 98 _ _ _ _ _); refine callM [7] (fun β w' hbk hbw => max2_ok N0 (bgO (Tr.d ⟨days, shift, size, some ta, tc, T, some la, lc, L⟩) AL S (i + 1) (d + lsN (Tr.d ⟨days, shift, size, some ta, tc, T, some la, lc, L⟩) a (i + 1)) - p2) (β 7) 2 w' (rd2 (hbk 7 (by simp) _ rfl))) ?_)
      all_goals first | (exfalso; omega) | exact ⟨i + 1, by omega, by omega, Ent.weak rfl ⟨rfl, rfl, rfl, by rw [hfs]; rfl, rfl, trivial⟩ ⟨rfl, rfl, rfl, rfl, rfl, rfl, rfl, trivial⟩ fun _ h => h⟩
   · obtain rfl : i = T.length - 1 := by omega
     rw [← heq]
     repeat'
      conv => whnf
      first
       | refine zA ?_ | refine zB ?_ | refine zC ?_ | refine zD ?_ | refine zE ?_ | refine zF ?_ | refine zG ?_ | refine zH ?_ | refine zJ ?_ | refine zI ?_ | refine splT ?_ | refine splF ?_ | refine splNot ?_
       | ((first | refine splIn ?_ ?_ | refine splD ?_ ?_ | refine splE ?_ ?_ | refine splNE ?_ ?_) <;> intro hc <;> first | (exfalso; omega) | (exfalso; dsimp only at hc; omega) | skip)
       | refine updE env 4 law118 rfl rfl (fun β => rfl) rfl rfl under169 hkey hHat.symm rfl ?_
       | refine nilE rfl rfl ?_
     all_goals first | (exfalso; omega) | exact ⟨fun β => rfl, ⟨rfl, rfl, rfl, rfl, rfl, rfl, trivial⟩, fun w' h => h, rfl⟩
 · skip
   have hb0 : bsO (Tr.d ⟨days, shift, size, some ta, tc, T, some la, lc, L⟩) S a d = -1000000000000 := by rw [hbs, if_neg hS0, if_neg hgo]
   rw [hb0] at heq
   repeat'
    conv => whnf
    first
     | refine zA ?_ | refine zB ?_ | refine zC ?_ | refine zD ?_ | refine zE ?_ | refine zF ?_ | refine zG ?_ | refine zH ?_ | refine zJ ?_ | refine zI ?_ | refine splT ?_ | refine splF ?_ | refine splNot ?_
     | ((first | refine splIn ?_ ?_ | refine splD ?_ ?_ | refine splE ?_ ?_ | refine splNE ?_ ?_) <;> intro hc <;> first | (exfalso; omega) | (exfalso; dsimp only at hc; omega) | skip)
     | refine lookS env (i := 4) law118 rfl rfl (fun β => rfl) rfl under169 zero3 hkey hHat ?_ ?_
     | refine nilE rfl rfl ?_
     | ((with_reducible show CallEv _ _ 72 _ _ _ _ _); refine callE (k := 72) (fun β w' hbw => h72 w' (hh w' hbw)) ?_)
     | refine Exists.intro (α := List Value) [.slice (some ra) T.length rc] ⟨⟨rfl, fun w' hw' => eL w' (hh w' hw')⟩, ?_⟩
     | refine Exists.intro (α := List Value) [iv q2] ⟨⟨rfl, fun w' hw' => eq0 w' (hh w' hw')⟩, ?_⟩
   all_goals first | (exfalso; omega) | exact ⟨fun β => rfl, ⟨rfl, rfl, rfl, rfl, rfl, rfl, trivial⟩, fun w' h => h, rfl⟩ | skip
   refine loopN 7 (fun i : Nat => [(1, .ptr 1 0), (2, .ptr 0 0), (3, .ptr 6 0), (7, .v (iv ((List.range i).foldl st (-1000000000000)))), (8, .v (iv (i + 1 : Nat)))]) (fun _ => [(4, .obj b1 (MpOk Try.prog 118 (stD (hmO (Tr.d ⟨days, shift, size, some ta, tc, T, some la, lc, L⟩) AL)))), (5, .obj b2 (MpOk Try.prog 118 (stD (bgO (Tr.d ⟨days, shift, size, some ta, tc, T, some la, lc, L⟩) AL)))), (0, .cells [.ptr 2 0] 114), (1, .cells [.v (.map (some b1))] 169), (2, .cells [.v (iv days), .v (iv shift), .v (iv size), .v (.slice (some ta) T.length tc), .v (.slice (some la) L.length lc), .v (.slice (some aa.aa) an ac), .fn (.func 97) [.ptr 1 0, .ptr 0 0], .fn (.func 100) [.ptr 0 0, .ptr 3 0]] 122), (3, .cells [.v (.map (some b2))] 169), (6, .cells [.v (.int .u64 S), .v (iv a), .v (iv d)] 118)]) (fun i => i ≤ T.length - 1) (fun i => T.length - 1 - i) 0 (Nat.zero_le _) ⟨rfl, rfl, rfl, rfl, rfl, trivial⟩ ⟨rfl, rfl, rfl, rfl, rfl, rfl, rfl, trivial⟩ (fun _ _ => ⟨rfl, rfl⟩) ?_
   intro i hi
   have hfs : (List.range (i + 1)).foldl st (-1000000000000) = st ((List.range i).foldl st (-1000000000000)) i := by rw [List.range_succ, List.foldl_append]; rfl
   rcases Nat.lt_or_ge i (T.length - 1) with hil | hil
   · have hsr := sh_r (t := i + 1) hS (by omega)
     have hal := and_l (t := i + 1) hS
     cases hbt : S.testBit (i + 1) with
     | true =>
      rw [hs1 _ _ hbt] at hfs
      rw [show btI S (i + 1) = 1 from by unfold btI; rw [hbt]; rfl] at hal
      generalize (List.range i).foldl st (-1000000000000) = N0 at *
      generalize ((S >>> (i + 1) : Nat) : Int) = SH at *
      repeat'
       conv => whnf
       first
        | refine zA ?_ | refine zB ?_ | refine zC ?_ | refine zD ?_ | refine zE ?_ | refine zF ?_ | refine zG ?_ | refine zH ?_ | refine zJ ?_ | refine zI ?_ | refine splT ?_ | refine splF ?_ | refine splNot ?_
        | ((first | refine splIn ?_ ?_ | refine splD ?_ ?_ | refine splE ?_ ?_ | refine splNE ?_ ?_) <;> intro hc <;> first | (exfalso; omega) | (exfalso; dsimp only at hc; omega) | skip)
        | refine Exists.intro (α := Value) (.int .u64 (i + 1 : Nat)) ⟨cvU (i + 1) (by omega), ?_⟩
        | refine Exists.intro (α := Int) SH ⟨⟨by omega, hsr.symm⟩, ?_⟩
        | refine Exists.intro (α := Int) 1 ⟨hal.symm, ?_⟩
        | refine nilE rfl rfl ?_
      all_goals first | (exfalso; omega) | exact ⟨i + 1, by omega, by omega, Ent.weak rfl ⟨rfl, rfl, rfl, by rw [hfs]; rfl, rfl, trivial⟩ ⟨rfl, rfl, rfl, rfl, rfl, rfl, rfl, trivial⟩ fun _ h => h⟩
     | false =>
      rw [hs2 _ _ hbt] at hfs
      rw [show btI S (i + 1) = 0 from by unfold btI; rw [hbt]; rfl] at hal
      obtain ⟨⟨p1, p2⟩, hpr, hpl⟩ := ec (i + 1) (by omega)
      have hlp := hleg (i + 1)
      rw [hpl] at hlp
      have hcp := hcs (i + 1)
      rw [hpl] at hcp
      rw [hcp] at hfs
      have hls1 := hls (i + 1)
      have hbbi := hbb (i + 1) (by omega) (by simp only [List.length_map]; omega) hbt (d + lsN (Tr.d ⟨days, shift, size, some ta, tc, T, some la, lc, L⟩) a (i + 1))
      have ep : ∀ w', Hp ⟨days, shift, size, some ta, tc, T, some la, lc, L⟩ AL aa w' → ∀ j v, [iv p2][j]? = some v → w'.cell? (((ra.add (((i + 1 : Nat) : Int).toNat * 2)).add 1).add j) = some v := fun w' h => rd_fldz (hrd w' h) hpr _ rfl 1 (iv p2) rfl
      generalize (List.range i).foldl st (-1000000000000) = N0 at *
      generalize ((S >>> (i + 1) : Nat) : Int) = SH at *
      repeat'
       conv => whnf
       first
        | refine zA ?_ | refine zB ?_ | refine zC ?_ | refine zD ?_ | refine zE ?_ | refine zF ?_ | refine zG ?_ | refine zH ?_ | refine zJ ?_ | refine zI ?_ | refine splT ?_ | refine splF ?_ | refine splNot ?_
        | ((first | refine splIn ?_ ?_ | refine splD ?_ ?_ | refine splE ?_ ?_ | refine splNE ?_ ?_) <;> intro hc <;> first | (exfalso; omega) | (exfalso; dsimp only at hc; omega) | skip)
        | refine Exists.intro (α := Value) (.int .u64 (i + 1 : Nat)) ⟨cvU (i + 1) (by omega), ?_⟩
        | refine Exists.intro (α := Int) SH ⟨⟨by omega, hsr.symm⟩, ?_⟩
        | refine Exists.intro (α := Int) 0 ⟨hal.symm, ?_⟩
        | refine nilE rfl rfl ?_
        | ((with_reducible show CallEv _ _ 99 _ _ _ _ _); refine callM [2] (fun β w' hbk hbw => h99 (i + 1) (show i + 1 < T.length by omega) w' (β 2) (hh w' hbw) (pl_at (x := ⟨days, shift, size, some ta, tc, T, some la, lc, L⟩) (r := [.slice (some aa.aa) an ac, (SV.fn (.func 97) [.ptr 1 0, .ptr 0 0]).c β, (SV.fn (.func 100) [.ptr 0 0, .ptr 3 0]).c β]) (hbk 2 (by simp) _ rfl))) ?_)
        | ((with_reducible show CallEv _ _ 100 _ _ _ _ _); refine callWR [0, 1, 2, 3, 4, 5] [(4, .obj b1 (MpOk Try.prog 118 (stD (hmO (Tr.d ⟨days, shift, size, some ta, tc, T, some la, lc, L⟩) AL)))), (5, .obj b2 (MpOk Try.prog 118 (stD (bgO (Tr.d ⟨days, shift, size, some ta, tc, T, some la, lc, L⟩) AL))))] (iv (bgO (Tr.d ⟨days, shift, size, some ta, tc, T, some la, lc, L⟩) AL S (i + 1) (d + lsN (Tr.d ⟨days, shift, size, some ta, tc, T, some la, lc, L⟩) a (i + 1)))) rfl (fun β w' h1 h2 hs2 => (hB i (d + lsN (Tr.d ⟨days, shift, size, some ta, tc, T, some la, lc, L⟩) a (i + 1)) (by omega) hbt (by omega) β w' (PS.of (x := ⟨days, shift, size, some ta, tc, T, some la, lc, L⟩) (AL := AL) (aa := aa) (an := an) (ac := ac) (b1 := b1) (b2 := b2) (six rfl rfl rfl rfl rfl rfl) h1 h2) (fun w2 hc => hh w2 (hs2 w2 (chg_six (x := ⟨days, shift, size, some ta, tc, T, some la, lc, L⟩) (AL := AL) (aa := aa) (an := an) (ac := ac) (b1 := b1) (b2 := b2) (six rfl rfl rfl rfl rfl rfl) hc)))).mono fun e w2 ⟨e1, e2, e3⟩ => ⟨e1, (PS.of (x := ⟨days, shift, size, some ta, tc, T, some la, lc, L⟩) (AL := AL) (aa := aa) (an := an) (ac := ac) (b1 := b1) (b2 := b2) (six rfl rfl rfl rfl rfl rfl) h1 h2).chg e2, e3.out⟩) ?_)
        | refine Exists.intro (α := List Value) [.slice (some ra) T.length rc] ⟨⟨rfl, fun w' hw' => eL w' (hh w' hw')⟩, ?_⟩
        | refine Exists.intro (α := List Value) [iv p2] ⟨⟨rfl, fun w' hw' => ep w' (hh w' hw')⟩, ?_⟩
        | ((with_reducible show CallEv _ _ 98 _ _ _ _ _); refine callM [7] (fun β w' hbk hbw => max2_ok N0 (bgO (Tr.d ⟨days, shift, size, some ta, tc, T, some la, lc, L⟩) AL S (i + 1) (d + lsN (Tr.d ⟨days, shift, size, some ta, tc, T, some la, lc, L⟩) a (i + 1)) - p2) (β 7) 2 w' (rd2 (hbk 7 (by simp) _ rfl))) ?_)
      all_goals first | (exfalso; omega) | exact ⟨i + 1, by omega, by omega, Ent.weak rfl ⟨rfl, rfl, rfl, by rw [hfs]; rfl, rfl, trivial⟩ ⟨rfl, rfl, rfl, rfl, rfl, rfl, rfl, trivial⟩ fun _ h => h⟩
   · obtain rfl : i = T.length - 1 := by omega
     rw [← heq]
     repeat'
      conv => whnf
      first
       | refine zA ?_ | refine zB ?_ | refine zC ?_ | refine zD ?_ | refine zE ?_ | refine zF ?_ | refine zG ?_ | refine zH ?_ | refine zJ ?_ | refine zI ?_ | refine splT ?_ | refine splF ?_ | refine splNot ?_
       | ((first | refine splIn ?_ ?_ | refine splD ?_ ?_ | refine splE ?_ ?_ | refine splNE ?_ ?_) <;> intro hc <;> first | (exfalso; omega) | (exfalso; dsimp only at hc; omega) | skip)
       | refine updE env 4 law118 rfl rfl (fun β => rfl) rfl rfl under169 hkey hHat.symm rfl ?_
       | refine nilE rfl rfl ?_
     all_goals first | (exfalso; omega) | exact ⟨fun β => rfl, ⟨rfl, rfl, rfl, rfl, rfl, rfl, trivial⟩, fun w' h => h, rfl⟩
end Go.Proofs.Ythfabodamhdhaaa
namespace Go.Proofs.Ythfabodamhdhaaa
open Go Tx Go.RowKit
set_option linter.unusedSimpArgs false
set_option linter.unusedVariables false
set_option maxHeartbeats 4000000 in
set_option maxRecDepth 100000 in
theorem begin_of (x : Tr) (AL : Nat → Nat → List Nat) (aa : Alp) (an ac b1 b2 : Nat) (S a d : Nat) (han : an = x.T.length) (hn : ToN x.d) (hA : AlOk x.d AL) (hS : S < 512) (ha1 : 1 ≤ a) (ha : a < x.T.length) (hd : d ≤ 300) (hbt : S.testBit a = false) (hLl : ∀ a d, (AL a d).length ≤ 10)
 (hBn : d < x.days.toNat → BeginC x AL aa an ac b1 b2 S a (d + 1)) (hH : ∀ e, e ≤ 60 → HomeC x AL aa an ac b1 b2 (S ||| 2 ^ a) a e) : BeginC x AL aa an ac b1 b2 S a d := by
 intro β w hp hst
 have hw0 := hst w (Chg.refl _ _)
 have hkey : ∃ kl, keyOf Try.prog 118 (stK S a d) = some kl := stK_key (wfU (by omega)) (wfI (by have := hn.n; simp [Tr.d] at this; omega)) (wfI (by omega))
 obtain ⟨kl, hkey⟩ := hkey
 have hBat := stD_at (bgO x.d AL) S a d
 have hnT := hn.n
 have hday := hn.d
 have hbd := fun l => hmO_bd hn hA (S ||| 2 ^ a) a (l + 1)
 have hbd1 := bgO_bd hn hA S a (d + 1) ha1 (by simp only [Tr.d, List.length_map]; exact ha) hbt
 have hgb := fun l hl => gn_bd hn (a := a) (d := d) (l := l) ha1 hl
 have h101 := fun l (hl : d ≤ l ∧ l < d + 10 ∧ l ≤ 60) w' (h : Hp x AL aa w') => gain_ok x a d l w' h.1 hn ha1 ha (by omega)
 have h59 := fun l (hl : l ≤ 60) w' => after_ok S a d a d l w' hS (by have := hn.n; simp [Tr.d] at this; omega) (by omega)
 have hAl := hA a d ha1 (by simp only [Tr.d, List.length_map]; exact ha)
 have hst1 := bgO_step x.d AL S a d
 have hend := bgO_end x.d AL S a d
 have eA : ∀ w', Hp x AL aa w' → _ := fun w' h => h.2 a ha1 (by simp only [Tr.d, List.length_map]; exact ha)
 obtain ⟨days, shift, size, to, tc, T, lo, lc, L⟩ := x
 dsimp only [Tr.d] at hnT hday hAl
 dsimp only at ha han
 simp only [List.length_map] at hnT
 have hto : to ≠ none ∧ lo ≠ none := by
  have hl := hn.l
  simp only [Tr.d, List.length_map] at hl
  obtain ⟨_, la, rfl, _⟩ := hw0.1.l.ptr (show 1 ≤ L.length by omega)
  obtain ⟨_, ta, rfl, _⟩ := hw0.1.t.ptr (show 1 ≤ T.length by omega)
  simp
 obtain ⟨hto, hlo⟩ := hto
 obtain ⟨la, rfl⟩ := Option.ne_none_iff_exists'.1 hlo
 obtain ⟨ta, rfl⟩ := Option.ne_none_iff_exists'.1 hto
 refine calls_P Try.func100 has100 Try.ntmps100 [.v (stK S a d), .ptr 0 0, .ptr 3 0] _ (by simp) rfl (fun h hh => ?_) hp hst
 unfold MB
 dsimp only
 by_cases hdd : days.toNat ≤ d
 · rw [hend hdd]
   repeat'
    conv => whnf
    first
     | refine zA ?_ | refine zB ?_ | refine zC ?_ | refine zD ?_ | refine zE ?_ | refine zF ?_ | refine zG ?_ | refine zH ?_ | refine zJ ?_ | refine zI ?_ | refine splT ?_ | refine splF ?_ | refine splNot ?_
     | ((first | refine splIn ?_ ?_ | refine splD ?_ ?_ | refine splE ?_ ?_ | refine splNE ?_ ?_) <;> intro hc <;> first | (exfalso; omega) | (exfalso; dsimp only at hc; omega) | skip)
     | refine nilE rfl rfl ?_
   all_goals first | (exfalso; omega) | exact ⟨fun β => rfl, ⟨rfl, rfl, rfl, rfl, rfl, rfl, trivial⟩, fun w' h => h, rfl⟩
 · have hdl : d < days.toNat := by omega
   have hsf := hst1 hdl
   have e1 : ∀ w', h w' → ∀ j v, [Value.slice (some (aa.ra a).1) days.toNat (aa.ra a).2][j]? = some v → w'.cell? ((aa.aa.add ((a : Int).toNat * 1)).add j) = some v := fun w' hw' j v hj => by
    match j, hj with
    | 0, hj => cases hj; rw [Int.toNat_natCast, Addr.add_add, Nat.add_zero]; exact (eA w' (hh w' hw')).1
   have e2 : ∀ w', h w' → ∀ j v, [Value.slice (aa.so a d).1 (AL a d).length (aa.so a d).2][j]? = some v → w'.cell? (((aa.ra a).1.add ((d : Int).toNat * 1)).add j) = some v := fun w' hw' j v hj => by
    match j, hj with
    | 0, hj => cases hj; rw [Int.toNat_natCast, Addr.add_add, Nat.add_zero]; exact ((eA w' (hh w' hw')).2 d hdl).1
   have e3 : ∀ w', h w' → Rd 3 (slF a d) (.slice (aa.so a d).1 (AL a d).length (aa.so a d).2) (AL a d) w' := fun w' hw' => ((eA w' (hh w' hw')).2 d hdl).2
   have hrd0 := ((eA w (hst w (Chg.refl _ _))).2 d hdl).2
   generalize aa.so a d = so at *
   obtain ⟨so1, so2⟩ := so
   dsimp only at e2 e3 hrd0
   generalize hAL : AL a d = LL at *
   obtain ⟨st, hste⟩ : ∃ st : Int → Nat → Int, st = fun (n : Int) (l : Nat) => imax n (gnO (Tr.d ⟨days, shift, size, some ta, tc, T, some la, lc, L⟩) a d l + hmO (Tr.d ⟨days, shift, size, some ta, tc, T, some la, lc, L⟩) AL (S ||| 2 ^ a) a (l + 1)) := ⟨_, rfl⟩
   rw [← hste] at hsf
   have hs1 : ∀ (n : Int) (l : Nat), st n l = imax n (gnO (Tr.d ⟨days, shift, size, some ta, tc, T, some la, lc, L⟩) a d l + hmO (Tr.d ⟨days, shift, size, some ta, tc, T, some la, lc, L⟩) AL (S ||| 2 ^ a) a (l + 1)) := fun n l => by rw [hste]
   clear hste
   have hLl : LL.length ≤ 10 := by rw [← hAL]; exact hLl a d
   repeat'
    conv => whnf
    first
     | refine zA ?_ | refine zB ?_ | refine zC ?_ | refine zD ?_ | refine zE ?_ | refine zF ?_ | refine zG ?_ | refine zH ?_ | refine zJ ?_ | refine zI ?_ | refine splT ?_ | refine splF ?_ | refine splNot ?_
     | ((first | refine splIn ?_ ?_ | refine splD ?_ ?_ | refine splE ?_ ?_ | refine splNE ?_ ?_) <;> intro hc <;> first | (exfalso; omega) | (exfalso; dsimp only at hc; omega) | skip)
     | refine lookS env (i := 5) law118 rfl rfl (fun β => rfl) rfl under169 zero3 hkey hBat ?_ ?_
     | refine nilE rfl rfl ?_
     | ((with_reducible show CallEv _ _ 100 _ _ _ _ _); refine callWR [0, 1, 2, 3, 4, 5] [(4, .obj b1 (MpOk Try.prog 118 (stD (hmO (Tr.d ⟨days, shift, size, some ta, tc, T, some la, lc, L⟩) AL)))), (5, .obj b2 (MpOk Try.prog 118 (stD (bgO (Tr.d ⟨days, shift, size, some ta, tc, T, some la, lc, L⟩) AL))))] (iv (bgO (Tr.d ⟨days, shift, size, some ta, tc, T, some la, lc, L⟩) AL S a (d + 1))) rfl (fun β w' h1 h2 hs2 => (hBn hdl β w' (PS.of (x := ⟨days, shift, size, some ta, tc, T, some la, lc, L⟩) (AL := AL) (aa := aa) (an := an) (ac := ac) (b1 := b1) (b2 := b2) (six rfl rfl rfl rfl rfl rfl) h1 h2) (fun w2 hc => hh w2 (hs2 w2 (chg_six (x := ⟨days, shift, size, some ta, tc, T, some la, lc, L⟩) (AL := AL) (aa := aa) (an := an) (ac := ac) (b1 := b1) (b2 := b2) (six rfl rfl rfl rfl rfl rfl) hc)))).mono fun e w2 ⟨e1, e2, e3⟩ => ⟨e1, (PS.of (x := ⟨days, shift, size, some ta, tc, T, some la, lc, L⟩) (AL := AL) (aa := aa) (an := an) (ac := ac) (b1 := b1) (b2 := b2) (six rfl rfl rfl rfl rfl rfl) h1 h2).chg e2, e3.out⟩) ?_)
     | refine Exists.intro (α := List Value) [.slice (some (aa.ra a).1) days.toNat (aa.ra a).2] ⟨⟨rfl, fun w' hw' => e1 w' hw'⟩, ?_⟩
     | refine Exists.intro (α := List Value) [.slice so1 LL.length so2] ⟨⟨rfl, fun w' hw' => e2 w' hw'⟩, ?_⟩
   all_goals first | (exfalso; omega) | exact ⟨fun β => rfl, ⟨rfl, rfl, rfl, rfl, rfl, rfl, trivial⟩, fun w' h => h, rfl⟩ | skip
   refine loopN 7 (fun i : Nat => [(1, .ptr 0 0), (2, .ptr 3 0), (3, .ptr 6 0), (7, .v (iv ((LL.take i).foldl st (bgO (Tr.d ⟨days, shift, size, some ta, tc, T, some la, lc, L⟩) AL S a (d + 1))))), (50, .v (.slice so1 LL.length so2)), (51, .v (iv LL.length)), (52, .v (iv i))]) (fun _ => [(4, .obj b1 (MpOk Try.prog 118 (stD (hmO (Tr.d ⟨days, shift, size, some ta, tc, T, some la, lc, L⟩) AL)))), (5, .obj b2 (MpOk Try.prog 118 (stD (bgO (Tr.d ⟨days, shift, size, some ta, tc, T, some la, lc, L⟩) AL)))), (0, .cells [.ptr 2 0] 114), (1, .cells [.v (.map (some b1))] 169), (2, .cells [.v (iv days), .v (iv shift), .v (iv size), .v (.slice (some ta) T.length tc), .v (.slice (some la) L.length lc), .v (.slice (some aa.aa) an ac), .fn (.func 97) [.ptr 1 0, .ptr 0 0], .fn (.func 100) [.ptr 0 0, .ptr 3 0]] 122), (3, .cells [.v (.map (some b2))] 169), (6, .cells [.v (.int .u64 S), .v (iv a), .v (iv d)] 118)]) (fun i => i ≤ LL.length) (fun i => LL.length - i) 0 (Nat.zero_le _) ⟨rfl, rfl, rfl, rfl, rfl, rfl, rfl, trivial⟩ ⟨rfl, rfl, rfl, rfl, rfl, rfl, rfl, trivial⟩ (fun _ _ => ⟨rfl, rfl⟩) ?_
   intro i hi
   rcases Nat.lt_or_ge i LL.length with hil | hil
   · obtain ⟨l, hl⟩ : ∃ l, LL[i]? = some l := ⟨_, List.getElem?_eq_getElem hil⟩
     have hlm := hAl l (List.mem_of_getElem? hl)
     have hfs : (LL.take (i + 1)).foldl st (bgO (Tr.d ⟨days, shift, size, some ta, tc, T, some la, lc, L⟩) AL S a (d + 1)) = st ((LL.take i).foldl st (bgO (Tr.d ⟨days, shift, size, some ta, tc, T, some la, lc, L⟩) AL S a (d + 1))) l := by rw [List.take_add_one, hl, List.foldl_append]; rfl
     rw [hs1] at hfs
     obtain ⟨_, sa, rfl, _⟩ := hrd0.ptr (by omega)
     have e4 := fun w' hw' => rd_ati (e3 w' hw') hl
     have hg1 := hgb l (by omega)
     have hb1 := hbd l
     have h101l := h101 l (by omega)
     have h59l := h59 l (by omega)
     generalize (LL.take i).foldl st (bgO (Tr.d ⟨days, shift, size, some ta, tc, T, some la, lc, L⟩) AL S a (d + 1)) = N0 at *
     repeat'
      conv => whnf
      first
       | refine zA ?_ | refine zB ?_ | refine zC ?_ | refine zD ?_ | refine zE ?_ | refine zF ?_ | refine zG ?_ | refine zH ?_ | refine zJ ?_ | refine zI ?_ | refine splT ?_ | refine splF ?_ | refine splNot ?_
       | ((first | refine splIn ?_ ?_ | refine splD ?_ ?_ | refine splE ?_ ?_ | refine splNE ?_ ?_) <;> intro hc <;> first | (exfalso; omega) | (exfalso; dsimp only at hc; omega) | skip)
       | refine nilE rfl rfl ?_
       | refine Exists.intro (α := List Value) [iv a, iv d, iv l] ⟨⟨rfl, fun w' hw' => e4 w' hw'⟩, ?_⟩
       | ((with_reducible show CallEv _ _ 101 _ _ _ _ _); refine callE (k := 101) (fun β w' hbw => h101l w' (hh w' hbw)) ?_)
       | ((with_reducible show CallEv _ _ 59 _ _ _ _ _); refine callE (k := 59) (fun β w' hbw => h59l w') ?_)
       | ((with_reducible show CallEv _ _ 97 _ _ _ _ _); refine callWR [0, 1, 2, 3, 4, 5] [(4, .obj b1 (MpOk Try.prog 118 (stD (hmO (Tr.d ⟨days, shift, size, some ta, tc, T, some la, lc, L⟩) AL)))), (5, .obj b2 (MpOk Try.prog 118 (stD (bgO (Tr.d ⟨days, shift, size, some ta, tc, T, some la, lc, L⟩) AL))))] (iv (hmO (Tr.d ⟨days, shift, size, some ta, tc, T, some la, lc, L⟩) AL (S ||| 2 ^ a) a (l + 1))) rfl (fun β w' h1 h2 hs2 => (hH (l + 1) (by omega) β w' (PS.of (x := ⟨days, shift, size, some ta, tc, T, some la, lc, L⟩) (AL := AL) (aa := aa) (an := an) (ac := ac) (b1 := b1) (b2 := b2) (six rfl rfl rfl rfl rfl rfl) h1 h2) (fun w2 hc => hh w2 (hs2 w2 (chg_six (x := ⟨days, shift, size, some ta, tc, T, some la, lc, L⟩) (AL := AL) (aa := aa) (an := an) (ac := ac) (b1 := b1) (b2 := b2) (six rfl rfl rfl rfl rfl rfl) hc)))).mono fun e w2 ⟨e1, e2, e3⟩ => ⟨e1, (PS.of (x := ⟨days, shift, size, some ta, tc, T, some la, lc, L⟩) (AL := AL) (aa := aa) (an := an) (ac := ac) (b1 := b1) (b2 := b2) (six rfl rfl rfl rfl rfl rfl) h1 h2).chg e2, e3.out⟩) ?_)
       | ((with_reducible show CallEv _ _ 98 _ _ _ _ _); refine callM [8] (fun β w' hbk hbw => max2_ok N0 (gnO (Tr.d ⟨days, shift, size, some ta, tc, T, some la, lc, L⟩) a d l + hmO (Tr.d ⟨days, shift, size, some ta, tc, T, some la, lc, L⟩) AL (S ||| 2 ^ a) a (l + 1)) (β 8) 2 w' (rd2 (hbk 8 (by simp) _ rfl))) ?_)
     all_goals first | (exfalso; omega) | exact ⟨i + 1, by omega, by omega, Ent.weak rfl ⟨rfl, rfl, rfl, by rw [hfs]; rfl, rfl, rfl, rfl, trivial⟩ ⟨rfl, rfl, rfl, rfl, rfl, rfl, rfl, trivial⟩ fun _ h => h⟩
   · obtain rfl : i = LL.length := by omega
     rw [List.take_length, ← hsf]
     repeat'
      conv => whnf
      first
       | refine zA ?_ | refine zB ?_ | refine zC ?_ | refine zD ?_ | refine zE ?_ | refine zF ?_ | refine zG ?_ | refine zH ?_ | refine zJ ?_ | refine zI ?_ | refine splT ?_ | refine splF ?_ | refine splNot ?_
       | ((first | refine splIn ?_ ?_ | refine splD ?_ ?_ | refine splE ?_ ?_ | refine splNE ?_ ?_) <;> intro hc <;> first | (exfalso; omega) | (exfalso; dsimp only at hc; omega) | skip)
       | refine updE env 5 law118 rfl rfl (fun β => rfl) rfl rfl under169 hkey hBat.symm rfl ?_
       | refine nilE rfl rfl ?_
     all_goals first | (exfalso; omega) | exact ⟨fun β => rfl, ⟨rfl, rfl, rfl, rfl, rfl, rfl, trivial⟩, fun w' h => h, rfl⟩
theorem or_512 {S a : Nat} (hS : S < 512) (ha : a < 9) : S ||| 2 ^ a < 512 := Nat.or_lt_two_pow (n := 9) hS (Nat.pow_lt_pow_right (by decide) ha)
theorem plan_all {x : Tr} {AL : Nat → Nat → List Nat} {aa : Alp} {an ac b1 b2 : Nat} (han : an = x.T.length) (hn : ToN x.d) (hA : AlOk x.d AL) (hLl : ∀ a d, (AL a d).length ≤ 10) : ∀ k S, S < 512 → unp (x.T.length - 1) S = k →
 (∀ a d, a < x.T.length → d ≤ 100 → HomeC x AL aa an ac b1 b2 S a d) ∧ ∀ a, 1 ≤ a → a < x.T.length → S.testBit a = false → ∀ d, d ≤ 300 → BeginC x AL aa an ac b1 b2 S a d := by
 have hT : x.T.length < 10 := by have := hn.n; simp only [Tr.d, List.length_map] at this; omega
 have hD : x.days ≤ 100 := by have := hn.d; simp only [Tr.d] at this; omega
 intro k
 induction k with
 | zero =>
  intro S hS hu
  have hbt : ∀ a, 1 ≤ a → a < x.T.length → S.testBit a = true := fun a h1 h2 => by
   cases hb : S.testBit a with
   | true => rfl
   | false =>
    have := unp_or (n := x.T.length - 1) (t := a - 1) (S := S) (by omega) (by rwa [show a - 1 + 1 = a from by omega])
    omega
  exact ⟨fun a d ha hd => home_of x AL aa an ac b1 b2 S a d hn hA hS ha hd fun t e ht hb _ => (by rw [hbt _ (by omega) ht] at hb; cases hb), fun a h1 h2 h3 => by rw [hbt a h1 h2] at h3; cases h3⟩
 | succ k ih =>
  intro S hS hu
  have hB : ∀ a, 1 ≤ a → a < x.T.length → S.testBit a = false → ∀ m d, x.days.toNat - d = m → d ≤ 300 → BeginC x AL aa an ac b1 b2 S a d := by
   intro a h1 h2 h3 m
   have hu2 := unp_or (n := x.T.length - 1) (t := a - 1) (S := S) (by omega) (by rwa [show a - 1 + 1 = a from by omega])
   rw [show a - 1 + 1 = a from by omega] at hu2
   have hh := (ih (S ||| 2 ^ a) (or_512 hS (by omega)) (by omega)).1
   induction m with
   | zero => exact fun d hd hd2 => begin_of x AL aa an ac b1 b2 S a d han hn hA hS h1 h2 hd2 h3 hLl (fun hlt => by omega) fun e he => hh a e h2 (by omega)
   | succ m ihm => exact fun d hd hd2 => begin_of x AL aa an ac b1 b2 S a d han hn hA hS h1 h2 hd2 h3 hLl (fun hlt => ihm (d + 1) (by omega) (by omega)) fun e he => hh a e h2 (by omega)
  exact ⟨fun a d ha hd => home_of x AL aa an ac b1 b2 S a d hn hA hS ha hd fun t e ht hb he => hB (t + 1) (by omega) ht hb _ e rfl he, fun a h1 h2 h3 d hd => hB a h1 h2 h3 _ d rfl hd⟩
end Go.Proofs.Ythfabodamhdhaaa
namespace Go.Proofs.Ythfabodamhdhaaa
open Go Tx Go.RowKit
set_option linter.unusedSimpArgs false
set_option linter.unusedVariables false
def rgB (lo hi : Int) (r : Int × Int) : Bool := decide (lo ≤ r.1) && (decide (r.1 ≤ r.2) && decide (r.2 ≤ hi))
theorem in_ok (r1 r2 lo hi : Int) (w : World) : Calls Try.prog 137 #[.agg #[iv r1, iv r2], iv lo, iv hi] w fun e w' => e = .returned (.bool (rgB lo hi (r1, r2))) ∧ Below w.heap.size w w' := by
 refine calls_val env mixed Try.func137 has137 Try.ntmps137 [.agg #[iv r1, iv r2], iv lo, iv hi] (by simp) ?_
 repeat'
  conv => whnf
  first
   | refine zA ?_ | refine zB ?_ | refine zC ?_ | refine zD ?_ | refine zE ?_ | refine zF ?_ | refine zG ?_ | refine zH ?_ | refine zJ ?_ | refine zI ?_ | refine splT ?_ | refine splF ?_ | refine splNot ?_
   | ((first | refine splIn ?_ ?_ | refine splD ?_ ?_ | refine splE ?_ ?_ | refine splNE ?_ ?_) <;> intro hc <;> first | (exfalso; omega) | (exfalso; dsimp only at hc; omega) | skip)
 all_goals exact ⟨fun β => congrArg Value.bool (by simp [rgB, *]), fun w' h => h⟩
theorem has_ok (r1 r2 n : Int) (w : World) : Calls Try.prog 166 #[.agg #[iv r1, iv r2], iv n] w fun e w' => e = .returned (.bool (inB n r1 r2)) ∧ Below w.heap.size w w' := by
 refine calls_val env mixed Try.func166 has166 Try.ntmps166 [.agg #[iv r1, iv r2], iv n] (by simp) ?_
 have hv := fun w' => within_ok n r1 r2 w'
 repeat'
  conv => whnf
  first
   | refine zA ?_ | refine zB ?_ | refine zC ?_ | refine zD ?_ | refine zE ?_ | refine zF ?_ | refine zG ?_ | refine zH ?_ | refine zJ ?_ | refine zI ?_ | refine splT ?_ | refine splF ?_ | refine splNot ?_
   | ((first | refine splIn ?_ ?_ | refine splD ?_ ?_ | refine splE ?_ ?_ | refine splNE ?_ ?_) <;> intro hc <;> first | (exfalso; omega) | (exfalso; dsimp only at hc; omega) | skip)
   | ((with_reducible show CallEv _ _ 70 _ _ _ _ _); refine callE (k := 70) (fun β w' hbw => hv _) ?_)
 all_goals exact ⟨fun β => rfl, fun w' h => h⟩
theorem in139_ok (r1 r2 : Int) (w : World) : Calls Try.prog 139 #[.agg #[iv r1, iv r2]] w fun e w' => e = .returned (.bool (rgB (-60) 60 (r1, r2))) ∧ Below w.heap.size w w' := by
 refine calls_val env mixed Try.func139 has139 Try.ntmps139 [.agg #[iv r1, iv r2]] (by simp) ?_
 have hv := fun w' => in_ok r1 r2 (-60) 60 w'
 repeat'
  conv => whnf
  first
   | refine zA ?_ | refine zB ?_ | refine zC ?_ | refine zD ?_ | refine zE ?_ | refine zF ?_ | refine zG ?_ | refine zH ?_ | refine zJ ?_ | refine zI ?_ | refine splT ?_ | refine splF ?_ | refine splNot ?_
   | ((first | refine splIn ?_ ?_ | refine splD ?_ ?_ | refine splE ?_ ?_ | refine splNE ?_ ?_) <;> intro hc <;> first | (exfalso; omega) | (exfalso; dsimp only at hc; omega) | skip)
   | ((with_reducible show CallEv _ _ 137 _ _ _ _ _); refine callE (k := 137) (fun β w' hbw => hv _) ?_)
 all_goals exact ⟨fun β => rfl, fun w' h => h⟩
theorem nil_ok (n : Int) (w : World) : Calls Try.prog 133 #[iv n] w fun e w' => e = .returned (.bool (decide (n = 0))) ∧ Below w.heap.size w w' := by
 refine calls_val env mixed Try.func133 has133 Try.ntmps133 [iv n] (by simp) ?_
 repeat'
  conv => whnf
  first
   | refine zA ?_ | refine zB ?_ | refine zC ?_ | refine zD ?_ | refine zE ?_ | refine zF ?_ | refine zG ?_ | refine zH ?_ | refine zJ ?_ | refine zI ?_ | refine splT ?_ | refine splF ?_ | refine splNot ?_
   | ((first | refine splIn ?_ ?_ | refine splD ?_ ?_ | refine splE ?_ ?_ | refine splNE ?_ ?_) <;> intro hc <;> first | (exfalso; omega) | (exfalso; dsimp only at hc; omega) | skip)
 all_goals first | (exfalso; omega) | exact ⟨fun β => congrArg Value.bool (by first | (simp [*]; done) | rfl), fun w' h => h⟩
theorem leg_ok (a b : Int) (w : World) : Calls Try.prog 96 #[.agg #[iv a, iv b]] w fun e w' => e = .returned (.bool (inB a 0 200 && inB b 0 1000000)) ∧ Below w.heap.size w w' := by
 refine calls_val env mixed Try.func96 has96 Try.ntmps96 [.agg #[iv a, iv b]] (by simp) ?_
 repeat'
  conv => whnf
  first
   | refine zA ?_ | refine zB ?_ | refine zC ?_ | refine zD ?_ | refine zE ?_ | refine zF ?_ | refine zG ?_ | refine zH ?_ | refine zJ ?_ | refine zI ?_ | refine splT ?_ | refine splF ?_ | refine splNot ?_
   | ((first | refine splIn ?_ ?_ | refine splD ?_ ?_ | refine splE ?_ ?_ | refine splNE ?_ ?_) <;> intro hc <;> first | (exfalso; omega) | (exfalso; dsimp only at hc; omega) | skip)
   | ((with_reducible show CallEv _ _ 70 _ _ _ _ _); refine callE (k := 70) (fun β w' hbw => within_ok _ _ _ _) ?_)
 all_goals exact ⟨fun β => congrArg Value.bool (by simp [inB, *]), fun w' h => h⟩
set_option maxRecDepth 100000 in
theorem all139_ok (L : List (Int × Int)) (o : Option Addr) (c : Nat) (w : World) (hrd : Rd 2 prF (.slice o L.length c) L w) (hl : L.length ≤ 1000000) :
 Calls Try.prog 138 #[.slice o L.length c, .func (.func 139) #[] #[]] w fun e w' => e = .returned (.bool (L.all (rgB (-60) 60))) ∧ Below w.heap.size w w' := by
 refine calls_val env mixed Try.func138 has138 Try.ntmps138 [.slice o L.length c, .func (.func 139) #[] #[]] (by simp) ?_
 repeat'
  conv => whnf
  first
   | refine zA ?_ | refine zB ?_ | refine zC ?_ | refine zD ?_ | refine zE ?_ | refine zF ?_ | refine zG ?_ | refine zH ?_ | refine zJ ?_ | refine zI ?_ | refine splT ?_ | refine splF ?_ | refine splNot ?_
   | ((first | refine splIn ?_ ?_ | refine splD ?_ ?_ | refine splE ?_ ?_ | refine splNE ?_ ?_) <;> intro hc <;> first | (exfalso; omega) | (exfalso; dsimp only at hc; omega) | skip)
   | ((with_reducible show CallEv _ _ 106 _ _ _ _ _); refine callI env mixed 1000 [] Try.func106 has106 Try.ntmps106 (Nat.le_of_ble_eq_true rfl) rfl rfl rfl ?_)
   | ((with_reducible show CallEv _ _ 143 _ _ _ _ _); refine callI env mixed 2000 [] Try.func143 has143 Try.ntmps143 (Nat.le_of_ble_eq_true rfl) rfl rfl rfl ?_)
 refine loopE (fun k : Nat => [(0, .v (.slice o L.length c)), (1, .fn (.func 164) [.ptr 0 0]), (7, .v (iv L.length)), (8, .v (iv k))]) (fun _ => [(0, .cells [.v (.func (.func 139) #[] #[])] 176)]) (fun k => k ≤ L.length ∧ (L.take k).all (rgB (-60) 60) = true) (fun k => L.length - k) 0 ⟨Nat.zero_le _, rfl⟩ ⟨rfl, rfl, rfl, rfl, trivial⟩ ⟨rfl, trivial⟩ (fun _ => ⟨rfl, rfl⟩) ?_
 intro k ⟨hk, hall⟩
 rcases Nat.lt_or_ge k L.length with hkl | hkl
 · obtain ⟨⟨r1, r2⟩, hb⟩ : ∃ b, L[k]? = some b := ⟨_, List.getElem?_eq_getElem hkl⟩
   obtain ⟨_, ad, rfl, _⟩ := hrd.ptr (by omega)
   have ht : (L.take (k + 1)).all (rgB (-60) 60) = (rgB (-60) 60) (r1, r2) := by rw [List.take_add_one, hb]; simp [hall]
   have e0 := fun (w' : World) hw' => rd_ati (hrd.below (w' := w') hw') hb
   have hv := fun w' => in139_ok r1 r2 w'
   obtain ⟨vb, hvb⟩ : ∃ vb, (rgB (-60) 60) (r1, r2) = vb := ⟨_, rfl⟩
   have hv' : ∀ w', Calls Try.prog 139 #[.agg #[iv r1, iv r2]] w' fun e w2 => e = .returned (.bool vb) ∧ Below w'.heap.size w' w2 := fun w' => by rw [← hvb]; exact hv w'
   clear hv
   cases vb with
   | true =>
    rw [hvb] at ht
    repeat'
     conv => whnf
     first
      | refine zA ?_ | refine zB ?_ | refine zC ?_ | refine zD ?_ | refine zE ?_ | refine zF ?_ | refine zG ?_ | refine zH ?_ | refine zJ ?_ | refine zI ?_ | refine splT ?_ | refine splF ?_ | refine splNot ?_
      | ((first | refine splIn ?_ ?_ | refine splD ?_ ?_ | refine splE ?_ ?_ | refine splNE ?_ ?_) <;> intro hc <;> first | (exfalso; omega) | (exfalso; dsimp only at hc; omega) | skip)
      | refine Exists.intro (α := List Value) [iv r1, iv r2] ⟨⟨rfl, fun w' hw' => e0 w' hw'⟩, ?_⟩
      | ((with_reducible show CallEv _ _ 164 _ _ _ _ _); refine callI env mixed 3000 [0,1,5,7,8] Try.func164 has164 Try.ntmps164 (Nat.le_of_ble_eq_true rfl) rfl rfl rfl ?_)
      | ((with_reducible show CallEv _ _ 139 _ _ _ _ _); refine callE (k := 139) (fun β w' hbw => hv' _) ?_)
    exact ⟨k + 1, ⟨by omega, ht⟩, by omega, Ent.weak rfl ⟨rfl, rfl, rfl, rfl, trivial⟩ ⟨rfl, trivial⟩ fun _ h => h⟩
   | false =>
    have hno : L.all (rgB (-60) 60) = false := by
     rw [List.all_eq_false]
     exact ⟨_, List.mem_of_getElem? hb, fun hc => absurd (hvb.symm.trans hc) (by decide)⟩
    rw [hno]
    repeat'
     conv => whnf
     first
      | refine zA ?_ | refine zB ?_ | refine zC ?_ | refine zD ?_ | refine zE ?_ | refine zF ?_ | refine zG ?_ | refine zH ?_ | refine zJ ?_ | refine zI ?_ | refine splT ?_ | refine splF ?_ | refine splNot ?_
      | ((first | refine splIn ?_ ?_ | refine splD ?_ ?_ | refine splE ?_ ?_ | refine splNE ?_ ?_) <;> intro hc <;> first | (exfalso; omega) | (exfalso; dsimp only at hc; omega) | skip)
      | refine Exists.intro (α := List Value) [iv r1, iv r2] ⟨⟨rfl, fun w' hw' => e0 w' hw'⟩, ?_⟩
      | ((with_reducible show CallEv _ _ 164 _ _ _ _ _); refine callI env mixed 3000 [0,1,5,7,8] Try.func164 has164 Try.ntmps164 (Nat.le_of_ble_eq_true rfl) rfl rfl rfl ?_)
      | ((with_reducible show CallEv _ _ 139 _ _ _ _ _); refine callE (k := 139) (fun β w' hbw => hv' _) ?_)
    all_goals first | exact ⟨fun β => rfl, fun w' h => h⟩ | (exfalso; omega)
 · rw [List.take_of_length_le hkl] at hall
   rw [hall]
   repeat'
    conv => whnf
    first
     | refine zA ?_ | refine zB ?_ | refine zC ?_ | refine zD ?_ | refine zE ?_ | refine zF ?_ | refine zG ?_ | refine zH ?_ | refine zJ ?_ | refine zI ?_ | refine splT ?_ | refine splF ?_ | refine splNot ?_
     | ((first | refine splIn ?_ ?_ | refine splD ?_ ?_ | refine splE ?_ ?_ | refine splNE ?_ ?_) <;> intro hc <;> first | (exfalso; omega) | (exfalso; dsimp only at hc; omega) | skip)
   all_goals first | exact ⟨fun β => rfl, fun w' h => h⟩ | (exfalso; omega)
set_option maxRecDepth 100000 in
theorem all133_ok (L : List (Int)) (o : Option Addr) (c : Nat) (w : World) (hrd : Rd 1 iF (.slice o L.length c) L w) (hl : L.length ≤ 1000000) :
 Calls Try.prog 79 #[.slice o L.length c, .func (.func 133) #[] #[]] w fun e w' => e = .returned (.bool (L.all (fun n : Int => decide (n = 0)))) ∧ Below w.heap.size w w' := by
 refine calls_val env mixed Try.func79 has79 Try.ntmps79 [.slice o L.length c, .func (.func 133) #[] #[]] (by simp) ?_
 repeat'
  conv => whnf
  first
   | refine zA ?_ | refine zB ?_ | refine zC ?_ | refine zD ?_ | refine zE ?_ | refine zF ?_ | refine zG ?_ | refine zH ?_ | refine zJ ?_ | refine zI ?_ | refine splT ?_ | refine splF ?_ | refine splNot ?_
   | ((first | refine splIn ?_ ?_ | refine splD ?_ ?_ | refine splE ?_ ?_ | refine splNE ?_ ?_) <;> intro hc <;> first | (exfalso; omega) | (exfalso; dsimp only at hc; omega) | skip)
   | ((with_reducible show CallEv _ _ 112 _ _ _ _ _); refine callI env mixed 1000 [] Try.func112 has112 Try.ntmps112 (Nat.le_of_ble_eq_true rfl) rfl rfl rfl ?_)
   | ((with_reducible show CallEv _ _ 156 _ _ _ _ _); refine callI env mixed 2000 [] Try.func156 has156 Try.ntmps156 (Nat.le_of_ble_eq_true rfl) rfl rfl rfl ?_)
 refine loopE (fun k : Nat => [(0, .v (.slice o L.length c)), (1, .fn (.func 113) [.ptr 0 0]), (7, .v (iv L.length)), (8, .v (iv k))]) (fun _ => [(0, .cells [.v (.func (.func 133) #[] #[])] 135)]) (fun k => k ≤ L.length ∧ (L.take k).all (fun n : Int => decide (n = 0)) = true) (fun k => L.length - k) 0 ⟨Nat.zero_le _, rfl⟩ ⟨rfl, rfl, rfl, rfl, trivial⟩ ⟨rfl, trivial⟩ (fun _ => ⟨rfl, rfl⟩) ?_
 intro k ⟨hk, hall⟩
 rcases Nat.lt_or_ge k L.length with hkl | hkl
 · obtain ⟨n, hb⟩ : ∃ b, L[k]? = some b := ⟨_, List.getElem?_eq_getElem hkl⟩
   obtain ⟨_, ad, rfl, _⟩ := hrd.ptr (by omega)
   have ht : (L.take (k + 1)).all (fun n : Int => decide (n = 0)) = (fun n : Int => decide (n = 0)) n := by rw [List.take_add_one, hb]; simp [hall]
   have e0 := fun (w' : World) hw' => rd_ati (hrd.below (w' := w') hw') hb
   have hv := fun w' => nil_ok n w'
   obtain ⟨vb, hvb⟩ : ∃ vb, (fun n : Int => decide (n = 0)) n = vb := ⟨_, rfl⟩
   have hv' : ∀ w', Calls Try.prog 133 #[iv n] w' fun e w2 => e = .returned (.bool vb) ∧ Below w'.heap.size w' w2 := fun w' => by rw [← hvb]; exact hv w'
   clear hv
   cases vb with
   | true =>
    rw [hvb] at ht
    repeat'
     conv => whnf
     first
      | refine zA ?_ | refine zB ?_ | refine zC ?_ | refine zD ?_ | refine zE ?_ | refine zF ?_ | refine zG ?_ | refine zH ?_ | refine zJ ?_ | refine zI ?_ | refine splT ?_ | refine splF ?_ | refine splNot ?_
      | ((first | refine splIn ?_ ?_ | refine splD ?_ ?_ | refine splE ?_ ?_ | refine splNE ?_ ?_) <;> intro hc <;> first | (exfalso; omega) | (exfalso; dsimp only at hc; omega) | skip)
      | refine Exists.intro (α := List Value) [iv n] ⟨⟨rfl, fun w' hw' => e0 w' hw'⟩, ?_⟩
      | ((with_reducible show CallEv _ _ 113 _ _ _ _ _); refine callI env mixed 3000 [0,1,5,7,8] Try.func113 has113 Try.ntmps113 (Nat.le_of_ble_eq_true rfl) rfl rfl rfl ?_)
      | ((with_reducible show CallEv _ _ 133 _ _ _ _ _); refine callE (k := 133) (fun β w' hbw => hv' _) ?_)
    exact ⟨k + 1, ⟨by omega, ht⟩, by omega, Ent.weak rfl ⟨rfl, rfl, rfl, rfl, trivial⟩ ⟨rfl, trivial⟩ fun _ h => h⟩
   | false =>
    have hno : L.all (fun n : Int => decide (n = 0)) = false := by
     rw [List.all_eq_false]
     exact ⟨_, List.mem_of_getElem? hb, fun hc => absurd (hvb.symm.trans hc) (by decide)⟩
    rw [hno]
    repeat'
     conv => whnf
     first
      | refine zA ?_ | refine zB ?_ | refine zC ?_ | refine zD ?_ | refine zE ?_ | refine zF ?_ | refine zG ?_ | refine zH ?_ | refine zJ ?_ | refine zI ?_ | refine splT ?_ | refine splF ?_ | refine splNot ?_
      | ((first | refine splIn ?_ ?_ | refine splD ?_ ?_ | refine splE ?_ ?_ | refine splNE ?_ ?_) <;> intro hc <;> first | (exfalso; omega) | (exfalso; dsimp only at hc; omega) | skip)
      | refine Exists.intro (α := List Value) [iv n] ⟨⟨rfl, fun w' hw' => e0 w' hw'⟩, ?_⟩
      | ((with_reducible show CallEv _ _ 113 _ _ _ _ _); refine callI env mixed 3000 [0,1,5,7,8] Try.func113 has113 Try.ntmps113 (Nat.le_of_ble_eq_true rfl) rfl rfl rfl ?_)
      | ((with_reducible show CallEv _ _ 133 _ _ _ _ _); refine callE (k := 133) (fun β w' hbw => hv' _) ?_)
    all_goals first | exact ⟨fun β => rfl, fun w' h => h⟩ | (exfalso; omega)
 · rw [List.take_of_length_le hkl] at hall
   rw [hall]
   repeat'
    conv => whnf
    first
     | refine zA ?_ | refine zB ?_ | refine zC ?_ | refine zD ?_ | refine zE ?_ | refine zF ?_ | refine zG ?_ | refine zH ?_ | refine zJ ?_ | refine zI ?_ | refine splT ?_ | refine splF ?_ | refine splNot ?_
     | ((first | refine splIn ?_ ?_ | refine splD ?_ ?_ | refine splE ?_ ?_ | refine splNE ?_ ?_) <;> intro hc <;> first | (exfalso; omega) | (exfalso; dsimp only at hc; omega) | skip)
   all_goals first | exact ⟨fun β => rfl, fun w' h => h⟩ | (exfalso; omega)
set_option maxRecDepth 100000 in
theorem all96_ok (L : List (Int × Int)) (o : Option Addr) (c : Nat) (w : World) (hrd : Rd 2 prF (.slice o L.length c) L w) (hl : L.length ≤ 1000000) :
 Calls Try.prog 95 #[.slice o L.length c, .func (.func 96) #[] #[]] w fun e w' => e = .returned (.bool (L.all (fun x : Int × Int => inB x.1 0 200 && inB x.2 0 1000000))) ∧ Below w.heap.size w w' := by
 refine calls_val env mixed Try.func95 has95 Try.ntmps95 [.slice o L.length c, .func (.func 96) #[] #[]] (by simp) ?_
 repeat'
  conv => whnf
  first
   | refine zA ?_ | refine zB ?_ | refine zC ?_ | refine zD ?_ | refine zE ?_ | refine zF ?_ | refine zG ?_ | refine zH ?_ | refine zJ ?_ | refine zI ?_ | refine splT ?_ | refine splF ?_ | refine splNot ?_
   | ((first | refine splIn ?_ ?_ | refine splD ?_ ?_ | refine splE ?_ ?_ | refine splNE ?_ ?_) <;> intro hc <;> first | (exfalso; omega) | (exfalso; dsimp only at hc; omega) | skip)
   | ((with_reducible show CallEv _ _ 140 _ _ _ _ _); refine callI env mixed 1000 [] Try.func140 has140 Try.ntmps140 (Nat.le_of_ble_eq_true rfl) rfl rfl rfl ?_)
   | ((with_reducible show CallEv _ _ 165 _ _ _ _ _); refine callI env mixed 2000 [] Try.func165 has165 Try.ntmps165 (Nat.le_of_ble_eq_true rfl) rfl rfl rfl ?_)
 refine loopE (fun k : Nat => [(0, .v (.slice o L.length c)), (1, .fn (.func 141) [.ptr 0 0]), (7, .v (iv L.length)), (8, .v (iv k))]) (fun _ => [(0, .cells [.v (.func (.func 96) #[] #[])] 167)]) (fun k => k ≤ L.length ∧ (L.take k).all (fun x : Int × Int => inB x.1 0 200 && inB x.2 0 1000000) = true) (fun k => L.length - k) 0 ⟨Nat.zero_le _, rfl⟩ ⟨rfl, rfl, rfl, rfl, trivial⟩ ⟨rfl, trivial⟩ (fun _ => ⟨rfl, rfl⟩) ?_
 intro k ⟨hk, hall⟩
 rcases Nat.lt_or_ge k L.length with hkl | hkl
 · obtain ⟨⟨r1, r2⟩, hb⟩ : ∃ b, L[k]? = some b := ⟨_, List.getElem?_eq_getElem hkl⟩
   obtain ⟨_, ad, rfl, _⟩ := hrd.ptr (by omega)
   have ht : (L.take (k + 1)).all (fun x : Int × Int => inB x.1 0 200 && inB x.2 0 1000000) = (fun x : Int × Int => inB x.1 0 200 && inB x.2 0 1000000) (r1, r2) := by rw [List.take_add_one, hb]; simp [hall]
   have e0 := fun (w' : World) hw' => rd_ati (hrd.below (w' := w') hw') hb
   have hv := fun w' => leg_ok r1 r2 w'
   obtain ⟨vb, hvb⟩ : ∃ vb, (fun x : Int × Int => inB x.1 0 200 && inB x.2 0 1000000) (r1, r2) = vb := ⟨_, rfl⟩
   have hv' : ∀ w', Calls Try.prog 96 #[.agg #[iv r1, iv r2]] w' fun e w2 => e = .returned (.bool vb) ∧ Below w'.heap.size w' w2 := fun w' => by rw [← hvb]; exact hv w'
   clear hv
   cases vb with
   | true =>
    rw [hvb] at ht
    repeat'
     conv => whnf
     first
      | refine zA ?_ | refine zB ?_ | refine zC ?_ | refine zD ?_ | refine zE ?_ | refine zF ?_ | refine zG ?_ | refine zH ?_ | refine zJ ?_ | refine zI ?_ | refine splT ?_ | refine splF ?_ | refine splNot ?_
      | ((first | refine splIn ?_ ?_ | refine splD ?_ ?_ | refine splE ?_ ?_ | refine splNE ?_ ?_) <;> intro hc <;> first | (exfalso; omega) | (exfalso; dsimp only at hc; omega) | skip)
      | refine Exists.intro (α := List Value) [iv r1, iv r2] ⟨⟨rfl, fun w' hw' => e0 w' hw'⟩, ?_⟩
      | ((with_reducible show CallEv _ _ 141 _ _ _ _ _); refine callI env mixed 3000 [0,1,5,7,8] Try.func141 has141 Try.ntmps141 (Nat.le_of_ble_eq_true rfl) rfl rfl rfl ?_)
      | ((with_reducible show CallEv _ _ 96 _ _ _ _ _); refine callE (k := 96) (fun β w' hbw => hv' _) ?_)
    exact ⟨k + 1, ⟨by omega, ht⟩, by omega, Ent.weak rfl ⟨rfl, rfl, rfl, rfl, trivial⟩ ⟨rfl, trivial⟩ fun _ h => h⟩
   | false =>
    have hno : L.all (fun x : Int × Int => inB x.1 0 200 && inB x.2 0 1000000) = false := by
     rw [List.all_eq_false]
     exact ⟨_, List.mem_of_getElem? hb, fun hc => absurd (hvb.symm.trans hc) (by decide)⟩
    rw [hno]
    repeat'
     conv => whnf
     first
      | refine zA ?_ | refine zB ?_ | refine zC ?_ | refine zD ?_ | refine zE ?_ | refine zF ?_ | refine zG ?_ | refine zH ?_ | refine zJ ?_ | refine zI ?_ | refine splT ?_ | refine splF ?_ | refine splNot ?_
      | ((first | refine splIn ?_ ?_ | refine splD ?_ ?_ | refine splE ?_ ?_ | refine splNE ?_ ?_) <;> intro hc <;> first | (exfalso; omega) | (exfalso; dsimp only at hc; omega) | skip)
      | refine Exists.intro (α := List Value) [iv r1, iv r2] ⟨⟨rfl, fun w' hw' => e0 w' hw'⟩, ?_⟩
      | ((with_reducible show CallEv _ _ 141 _ _ _ _ _); refine callI env mixed 3000 [0,1,5,7,8] Try.func141 has141 Try.ntmps141 (Nat.le_of_ble_eq_true rfl) rfl rfl rfl ?_)
      | ((with_reducible show CallEv _ _ 96 _ _ _ _ _); refine callE (k := 96) (fun β w' hbw => hv' _) ?_)
    all_goals first | exact ⟨fun β => rfl, fun w' h => h⟩ | (exfalso; omega)
 · rw [List.take_of_length_le hkl] at hall
   rw [hall]
   repeat'
    conv => whnf
    first
     | refine zA ?_ | refine zB ?_ | refine zC ?_ | refine zD ?_ | refine zE ?_ | refine zF ?_ | refine zG ?_ | refine zH ?_ | refine zJ ?_ | refine zI ?_ | refine splT ?_ | refine splF ?_ | refine splNot ?_
     | ((first | refine splIn ?_ ?_ | refine splD ?_ ?_ | refine splE ?_ ?_ | refine splNE ?_ ?_) <;> intro hc <;> first | (exfalso; omega) | (exfalso; dsimp only at hc; omega) | skip)
   all_goals first | exact ⟨fun β => rfl, fun w' h => h⟩ | (exfalso; omega)
end Go.Proofs.Ythfabodamhdhaaa
namespace Go.Proofs.Ythfabodamhdhaaa.Tx
open Go Go.RowKit
set_option linter.unusedSimpArgs false
set_option linter.unusedVariables false
end Go.Proofs.Ythfabodamhdhaaa.Tx
namespace Go.Proofs.Ythfabodamhdhaaa
open Go Tx Go.RowKit
set_option linter.unusedSimpArgs false
set_option linter.unusedVariables false
theorem part3 (cs : List Value) (o : Nat) (v : Value) (w : World) (h : cs[o]? = some v) : (part 3 cs.toArray o).run Try.prog w = .ok v w :=
 run_part (β := fun _ => 0) (l := [.v v]) (s := .v v) tok3 (by
  obtain ⟨h1, h2⟩ := List.getElem?_eq_some_iff.1 h
  show List.take 1 (List.drop o cs) = [v]
  rw [List.drop_eq_getElem_cons h1, h2]; rfl) rfl (.inr ⟨rfl, rfl⟩)
theorem eqIn3 (d : Nat) (a b : Int) (w : World) : (Op.equalIn (d + 1) 3 (iv a) (iv b)).run Try.prog w = .ok (a == b) w := equalIn_int under3 a b
theorem names55 : namesB Try.prog 55 = true := by kernel_rfl
theorem names60 : namesB Try.prog 60 = true := by kernel_rfl
theorem guard55 : Try.prog.eqGuardType Try.prog.depth 55 = false := by kernel_rfl
theorem guard60 : Try.prog.eqGuardType Try.prog.depth 60 = false := by kernel_rfl
theorem eqIn55 (a b c e : Int) (w : World) : (Op.equalIn 10000 55 (.agg #[iv a, iv b]) (.agg #[iv c, iv e])).run Try.prog w = .ok (a == c && b == e) w :=
 equalIn_two tok55 rfl (by decide) names55 (part3 _ 0 _ w rfl) (part3 _ 1 _ w rfl) (part3 _ 0 _ w rfl) (part3 _ 1 _ w rfl) (eqIn3 9998 _ _ w) (eqIn3 9998 _ _ w)
theorem eqIn60 (a b c e : Int) (w : World) : (Op.equalIn 10000 60 (.agg #[iv a, iv b]) (.agg #[iv c, iv e])).run Try.prog w = .ok (a == c && b == e) w :=
 equalIn_two tok60 rfl (by decide) names60 (part3 _ 0 _ w rfl) (part3 _ 1 _ w rfl) (part3 _ 0 _ w rfl) (part3 _ 1 _ w rfl) (eqIn3 9998 _ _ w) (eqIn3 9998 _ _ w)
theorem eqlE55 {a b c e : Int} {q : Bool} {x y : Operand} {K : Value → Prop} (hq : (a == c && b == e) = q) (h : K (.bool q)) : ∃ v, (∀ _ : Nat → Nat, RunIs Try.prog (do eqGuard .eql 55 x y (.agg #[iv a, iv b]) (.agg #[iv c, iv e]); binOp .eql 55 (.agg #[iv a, iv b]) (.agg #[iv c, iv e])) v) ∧ K v :=
 ⟨_, fun _ => runIs_eql guard55 fun w => eqIn55 _ _ _ _ w, by rw [hq]; exact h⟩
theorem neqE60 {a b c e : Int} {q : Bool} {x y : Operand} {K : Value → Prop} (hq : (!(a == c && b == e)) = q) (h : K (.bool q)) : ∃ v, (∀ _ : Nat → Nat, RunIs Try.prog (do eqGuard .neq 60 x y (.agg #[iv a, iv b]) (.agg #[iv c, iv e]); binOp .neq 60 (.agg #[iv a, iv b]) (.agg #[iv c, iv e])) v) ∧ K v :=
 ⟨_, fun _ => runIs_neq guard60 fun w => eqIn60 _ _ _ _ w, by rw [hq]; exact h⟩
end Go.Proofs.Ythfabodamhdhaaa
namespace Go.Proofs.Ythfabodamhdhaaa
open Go Tx Go.RowKit
set_option linter.unusedSimpArgs false
set_option linter.unusedVariables false
def lsR (O : List (Int × Int)) : Nat → Int
 | 0 => -1
 | k + 1 => ((O[k]?).getD (0, 0)).2
theorem lsR_succ {O : List (Int × Int)} {k : Nat} {a b : Int} (h : O[k]? = some (a, b)) : lsR O (k + 1) = b := by simp [lsR, h]
theorem apB_drop {days : Int} {O : List (Int × Int)} {k : Nat} {a b : Int} (h : O[k]? = some (a, b)) : apB days (lsR O k) (O.drop k) = (rgB (lsR O k + 1) (days - 1) (a, b) && apB days (lsR O (k + 1)) (O.drop (k + 1))) := by
 obtain ⟨hk, e⟩ := List.getElem?_eq_some_iff.1 h
 rw [List.drop_eq_getElem_cons hk, e, lsR_succ h]
 rfl
set_option maxHeartbeats 2000000 in
set_option maxRecDepth 100000 in
theorem town_ok (t : Tn) (days : Int) (w : World) (h : TnIn t w) (hd : 1 ≤ days ∧ days ≤ 60) : Calls Try.prog 94 #[.agg t.cs.toArray, iv days] w fun e w' => e = .returned (.bool (twB days t.d)) ∧ Below w.heap.size w w' := by
 obtain ⟨oo, oc, ro, rc, O, s1, s2, pay, lot, rent, R, cold, cut⟩ := t
 obtain ⟨hO, hR, hol, hrl⟩ := h
 dsimp only at hO hR hol hrl ⊢
 refine calls_val env mixed Try.func94 has94 Try.ntmps94 [.agg #[.slice oo O.length oc, iv s1, iv s2, iv pay, iv lot, iv rent, .slice ro R.length rc, iv cold, iv cut], iv days] (by simp) ?_
 have hall := fun w' hb => all139_ok R ro rc w' (hR.below hb) hrl
 have h137 := fun w' => in_ok s1 s2 1 10 w'
 obtain ⟨vr, hvr⟩ : ∃ v, rgB 1 10 (s1, s2) = v := ⟨_, rfl⟩
 obtain ⟨va, hva⟩ : ∃ v, R.all (rgB (-60) 60) = v := ⟨_, rfl⟩
 rw [hvr] at h137
 rw [hva] at hall
 have hT : twB days ⟨O, s1, s2, pay, lot, rent, R, cold, cut⟩ = (inB O.length 1 3 && (apB days (-1) O && (vr && (inB pay 0 1000000 && (inB lot 0 100000 && (inB rent 0 1000000 &&
  (decide (R.length ≤ 3) && (va && (inB cold 0 60 && inB cut 0 1000))))))))) := by rw [← hvr, ← hva]; rfl
 rw [hT]
 clear hT
 obtain ⟨vo, hvo⟩ : ∃ v, inB (O.length : Int) 1 3 = v := ⟨_, rfl⟩
 have h70o := fun w' => within_ok O.length 1 3 w'
 rw [hvo] at h70o ⊢
 cases vo with
 | false =>
  repeat'
   conv => whnf
   first
    | refine zA ?_ | refine zB ?_ | refine zC ?_ | refine zD ?_ | refine zE ?_ | refine zF ?_ | refine zG ?_ | refine zH ?_ | refine zJ ?_ | refine zI ?_ | refine splT ?_ | refine splF ?_ | refine splNot ?_
    | ((first | refine splIn ?_ ?_ | refine splD ?_ ?_ | refine splE ?_ ?_ | refine splNE ?_ ?_) <;> intro hc <;> first | (exfalso; omega) | (exfalso; dsimp only at hc; omega) | skip)
    | ((with_reducible show CallEv _ _ 70 _ _ _ _ _); refine callE (k := 70) (fun β w' hbw => h70o _) ?_)
  all_goals exact ⟨fun β => rfl, fun w' h => h⟩
 | true =>
  generalize hW : Value.bool _ = W
  have hW' : W = Value.bool (apB days (lsR O 0) (O.drop 0) && (vr && (inB pay 0 1000000 && (inB lot 0 100000 && (inB rent 0 1000000 && (decide (R.length ≤ 3) && (va && (inB cold 0 60 && inB cut 0 1000)))))))) := by rw [← hW]; rfl
  clear hW
  repeat'
   conv => whnf
   first
    | refine zA ?_ | refine zB ?_ | refine zC ?_ | refine zD ?_ | refine zE ?_ | refine zF ?_ | refine zG ?_ | refine zH ?_ | refine zJ ?_ | refine zI ?_ | refine splT ?_ | refine splF ?_ | refine splNot ?_
    | ((first | refine splIn ?_ ?_ | refine splD ?_ ?_ | refine splE ?_ ?_ | refine splNE ?_ ?_) <;> intro hc <;> first | (exfalso; omega) | (exfalso; dsimp only at hc; omega) | skip)
    | ((with_reducible show CallEv _ _ 70 _ _ _ _ _); refine callE (k := 70) (fun β w' hbw => h70o _) ?_)
    | ((with_reducible show CallEv _ _ 138 _ _ _ _ _); refine callI env mixed 1000 [2, 12] Try.func138 has138 Try.ntmps138 (Nat.le_of_ble_eq_true rfl) rfl rfl rfl ?_)
    | ((with_reducible show CallEv _ _ 106 _ _ _ _ _); refine callI env mixed 2000 [] Try.func106 has106 Try.ntmps106 (Nat.le_of_ble_eq_true rfl) rfl rfl rfl ?_)
    | ((with_reducible show CallEv _ _ 143 _ _ _ _ _); refine callI env mixed 3000 [] Try.func143 has143 Try.ntmps143 (Nat.le_of_ble_eq_true rfl) rfl rfl rfl ?_)
  refine loopE (fun k : Nat => [(0, .v (.slice oo O.length oc)), (1, .fn (.func 164) [.ptr 3 0]), (7, .v (iv O.length)), (8, .v (iv k))]) (fun k => [(3, .cells [.fn (.func 136) [.ptr 2 0, .ptr 1 0]] 176), (2, .cells [.v (iv (lsR O k))] 3), (1, .cells [.v (iv days)] 3), (0, .cells [.v (.slice oo O.length oc), .v (iv s1), .v (iv s2), .v (iv pay), .v (iv lot), .v (iv rent), .v (.slice ro R.length rc), .v (iv cold), .v (iv cut)] 57)])
   (fun k => (k ≤ O.length ∧ -1 ≤ lsR O k ∧ lsR O k ≤ 60) ∧ W = Value.bool (apB days (lsR O k) (O.drop k) && (vr && (inB pay 0 1000000 && (inB lot 0 100000 && (inB rent 0 1000000 && (decide (R.length ≤ 3) && (va && (inB cold 0 60 && inB cut 0 1000))))))))) (fun k => O.length - k) 0 ⟨⟨Nat.zero_le _, by show (-1 : Int) ≤ -1; decide, by show (-1 : Int) ≤ 60; decide⟩, hW'⟩ ⟨rfl, rfl, rfl, rfl, trivial⟩ ⟨rfl, rfl, rfl, rfl, trivial⟩ (fun _ => ⟨rfl, rfl⟩) ?_
  clear hW'
  intro k ⟨⟨hk, hk1, hk2⟩, hW⟩
  rcases Nat.lt_or_ge k O.length with hkl | hkl
  · obtain ⟨⟨r1, r2⟩, hx⟩ : ∃ b, O[k]? = some b := ⟨_, List.getElem?_eq_getElem hkl⟩
    obtain ⟨_, ad, rfl, _⟩ := hO.ptr (by omega)
    have e0 := fun (w' : World) hw' => rd_ati (hO.below (w' := w') hw') hx
    rw [apB_drop hx] at hW
    have hls := lsR_succ hx
    have hv := fun w' => in_ok r1 r2 (lsR O k + 1) (days - 1) w'
    cases hg : rgB (lsR O k + 1) (days - 1) (r1, r2) with
    | true =>
     rw [hg] at hv hW
     rw [Bool.true_and] at hW
     have hgb := hg
     simp only [rgB, Bool.and_eq_true, decide_eq_true_eq] at hgb
     generalize hlk : lsR O k = lk at *
     repeat'
      conv => whnf
      first
       | refine zA ?_ | refine zB ?_ | refine zC ?_ | refine zD ?_ | refine zE ?_ | refine zF ?_ | refine zG ?_ | refine zH ?_ | refine zJ ?_ | refine zI ?_ | refine splT ?_ | refine splF ?_ | refine splNot ?_
       | ((first | refine splIn ?_ ?_ | refine splD ?_ ?_ | refine splE ?_ ?_ | refine splNE ?_ ?_) <;> intro hc <;> first | (exfalso; omega) | (exfalso; dsimp only at hc; omega) | skip)
       | refine Exists.intro (α := List Value) [iv r1, iv r2] ⟨⟨rfl, fun w' hw' => e0 w' hw'⟩, ?_⟩
       | ((with_reducible show CallEv _ _ 164 _ _ _ _ _); refine callI env mixed 4000 [0,1,5,7,8] Try.func164 has164 Try.ntmps164 (Nat.le_of_ble_eq_true rfl) rfl rfl rfl ?_)
       | ((with_reducible show CallEv _ _ 136 _ _ _ _ _); refine callI env mixed 5000 [] Try.func136 has136 Try.ntmps136 (Nat.le_of_ble_eq_true rfl) rfl rfl rfl ?_)
       | ((with_reducible show CallEv _ _ 137 _ _ _ _ _); refine callE (k := 137) (fun β w' hbw => hv _) ?_)
     all_goals first | (exfalso; omega) | exact ⟨k + 1, ⟨⟨by omega, by omega, by omega⟩, hW⟩, by omega, Ent.weak rfl ⟨rfl, rfl, rfl, rfl, trivial⟩ ⟨rfl, by rw [hls]; rfl, rfl, rfl, trivial⟩ fun _ h => h⟩
    | false =>
     rw [hg] at hv hW
     rw [Bool.false_and, Bool.false_and] at hW
     subst hW
     generalize hlk : lsR O k = lk at *
     repeat'
      conv => whnf
      first
       | refine zA ?_ | refine zB ?_ | refine zC ?_ | refine zD ?_ | refine zE ?_ | refine zF ?_ | refine zG ?_ | refine zH ?_ | refine zJ ?_ | refine zI ?_ | refine splT ?_ | refine splF ?_ | refine splNot ?_
       | ((first | refine splIn ?_ ?_ | refine splD ?_ ?_ | refine splE ?_ ?_ | refine splNE ?_ ?_) <;> intro hc <;> first | (exfalso; omega) | (exfalso; dsimp only at hc; omega) | skip)
       | refine Exists.intro (α := List Value) [iv r1, iv r2] ⟨⟨rfl, fun w' hw' => e0 w' hw'⟩, ?_⟩
       | ((with_reducible show CallEv _ _ 164 _ _ _ _ _); refine callI env mixed 4000 [0,1,5,7,8] Try.func164 has164 Try.ntmps164 (Nat.le_of_ble_eq_true rfl) rfl rfl rfl ?_)
       | ((with_reducible show CallEv _ _ 136 _ _ _ _ _); refine callI env mixed 5000 [] Try.func136 has136 Try.ntmps136 (Nat.le_of_ble_eq_true rfl) rfl rfl rfl ?_)
       | ((with_reducible show CallEv _ _ 137 _ _ _ _ _); refine callE (k := 137) (fun β w' hbw => hv _) ?_)
     all_goals first | (exfalso; omega) | exact ⟨fun β => rfl, fun w' h => h⟩
  · rw [List.drop_of_length_le hkl, show apB days (lsR O k) [] = true from rfl, Bool.true_and] at hW
    subst hW
    cases vr with
    | false =>
     repeat'
      conv => whnf
      first
       | refine zA ?_ | refine zB ?_ | refine zC ?_ | refine zD ?_ | refine zE ?_ | refine zF ?_ | refine zG ?_ | refine zH ?_ | refine zJ ?_ | refine zI ?_ | refine splT ?_ | refine splF ?_ | refine splNot ?_
       | ((first | refine splIn ?_ ?_ | refine splD ?_ ?_ | refine splE ?_ ?_ | refine splNE ?_ ?_) <;> intro hc <;> first | (exfalso; omega) | (exfalso; dsimp only at hc; omega) | skip)
       | ((with_reducible show CallEv _ _ 137 _ _ _ _ _); refine callE (k := 137) (fun β w' hbw => h137 _) ?_)
     all_goals first | (exfalso; omega) | exact ⟨fun β => congrArg Value.bool (by first | (simp [inB, *]; done) | (simp [inB, *]; omega)), fun w' h => h⟩
    | true =>
     cases va with
     | false =>
      repeat'
       conv => whnf
       first
        | refine zA ?_ | refine zB ?_ | refine zC ?_ | refine zD ?_ | refine zE ?_ | refine zF ?_ | refine zG ?_ | refine zH ?_ | refine zJ ?_ | refine zI ?_ | refine splT ?_ | refine splF ?_ | refine splNot ?_
        | ((first | refine splIn ?_ ?_ | refine splD ?_ ?_ | refine splE ?_ ?_ | refine splNE ?_ ?_) <;> intro hc <;> first | (exfalso; omega) | (exfalso; dsimp only at hc; omega) | skip)
        | ((with_reducible show CallEv _ _ 137 _ _ _ _ _); refine callE (k := 137) (fun β w' hbw => h137 _) ?_)
        | ((with_reducible show CallEv _ _ 138 _ _ _ _ _); refine callE (k := 138) (fun β w' hbw => hall _ hbw) ?_)
        | ((with_reducible show CallEv _ _ 70 _ _ _ _ _); refine callE (k := 70) (fun β w' hbw => within_ok _ _ _ _) ?_)
      all_goals first | (exfalso; omega) | exact ⟨fun β => congrArg Value.bool (by first | (simp [inB, *]; done) | (simp [inB, *]; omega)), fun w' h => h⟩
     | true =>
      repeat'
       conv => whnf
       first
        | refine zA ?_ | refine zB ?_ | refine zC ?_ | refine zD ?_ | refine zE ?_ | refine zF ?_ | refine zG ?_ | refine zH ?_ | refine zJ ?_ | refine zI ?_ | refine splT ?_ | refine splF ?_ | refine splNot ?_
        | ((first | refine splIn ?_ ?_ | refine splD ?_ ?_ | refine splE ?_ ?_ | refine splNE ?_ ?_) <;> intro hc <;> first | (exfalso; omega) | (exfalso; dsimp only at hc; omega) | skip)
        | ((with_reducible show CallEv _ _ 137 _ _ _ _ _); refine callE (k := 137) (fun β w' hbw => h137 _) ?_)
        | ((with_reducible show CallEv _ _ 138 _ _ _ _ _); refine callE (k := 138) (fun β w' hbw => hall _ hbw) ?_)
        | ((with_reducible show CallEv _ _ 70 _ _ _ _ _); refine callE (k := 70) (fun β w' hbw => within_ok _ _ _ _) ?_)
      all_goals first | (exfalso; omega) | exact ⟨fun β => congrArg Value.bool (by first | (simp [inB, *]; done) | (simp [inB, *]; omega)), fun w' h => h⟩
theorem quB_eq (x : Tw) : quB x = (decide (x.O.length + x.R.length = 0) && (decide (x.s1 = 0) && (decide (x.s2 = 0) && [x.pay, x.lot, x.rent, x.cold, x.cut].all fun n => decide (n = 0)))) := by
 simp [quB, Bool.and_assoc]
set_option maxHeartbeats 2000000 in
set_option maxRecDepth 100000 in
theorem quarters_ok (t : Tn) (w : World) (h : TnIn t w) : Calls Try.prog 91 #[.agg t.cs.toArray] w fun e w' => e = .returned (.bool (quB t.d)) ∧ Below w.heap.size w w' := by
 obtain ⟨oo, oc, ro, rc, O, s1, s2, pay, lot, rent, R, cold, cut⟩ := t
 obtain ⟨hO, hR, hol, hrl⟩ := h
 dsimp only at hO hR hol hrl ⊢
 refine calls_val env mixed Try.func91 has91 Try.ntmps91 [.agg #[.slice oo O.length oc, iv s1, iv s2, iv pay, iv lot, iv rent, .slice ro R.length rc, iv cold, iv cut]] (by simp) ?_
 rw [quB_eq]
 dsimp only
 obtain ⟨va, hva⟩ : ∃ v, [pay, lot, rent, cold, cut].all (fun n : Int => decide (n = 0)) = v := ⟨_, rfl⟩
 rw [hva]
 have h79 := fun w' b c (h : w'.heap[b]? = some (.cells [iv pay, iv lot, iv rent, iv cold, iv cut].toArray 3 (0, 0))) => all133_ok [pay, lot, rent, cold, cut] (some ⟨b, 0, none⟩) c w' (Rd.of_cells (f := iF) (bs := [pay, lot, rent, cold, cut]) (fun _ => rfl) rfl h) (by show (5 : Nat) ≤ 1000000; decide)
 rw [hva] at h79
 obtain ⟨q, hq⟩ : ∃ q, (s1 == 0 && s2 == 0) = q := ⟨_, rfl⟩
 have hqq : (decide (s1 = 0) && (decide (s2 = 0) && va)) = (q && va) := by rw [← hq, Bool.and_assoc]; simp [beq_iff_eq, BEq.beq]
 rw [hqq]
 cases q <;> cases va
 all_goals skip
 repeat'
  conv => whnf
  first
   | refine zA ?_ | refine zB ?_ | refine zC ?_ | refine zD ?_ | refine zE ?_ | refine zF ?_ | refine zG ?_ | refine zH ?_ | refine zJ ?_ | refine zI ?_ | refine splT ?_ | refine splF ?_ | refine splNot ?_
   | ((first | refine splIn ?_ ?_ | refine splD ?_ ?_ | refine splE ?_ ?_ | refine splNE ?_ ?_) <;> intro hc <;> first | (exfalso; omega) | (exfalso; dsimp only at hc; omega) | skip)
   | refine eqlE55 hq ?_
   | ((with_reducible show CallEv _ _ 79 _ _ _ _ _); refine callM [1] (fun β w' hbk hbw => h79 w' (β 1) 5 (hbk 1 (by simp) _ rfl)) ?_)
 all_goals first | (exfalso; omega) | exact ⟨fun β => congrArg Value.bool (by first | (rw [decide_eq_true (by omega)]; rfl) | (rw [decide_eq_false (by omega)]; rfl) | (generalize decide _ = z; cases z <;> rfl)), fun w' h => h⟩
end Go.Proofs.Ythfabodamhdhaaa
