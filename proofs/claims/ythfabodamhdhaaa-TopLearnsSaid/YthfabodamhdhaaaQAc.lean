/- Part 3 of the proof: texts merged. -/
import Derived.Test.YthfabodamhdhaaaQAb
import Derived.Test.YthfabodamhdhaaaRows
import Derived.Maps.Keyed
import Derived.DeepKeys5
import Derived.Carry
namespace Go.Proofs.Ythfabodamhdhaaa
open Go Tx
set_option maxRecDepth 100000
def ti1 : TI := ⟨1, [.nilFunc], 8, .plain⟩
theorem tok1 : TOK Try.prog 1 ti1 := ⟨by kernel_rfl, by kernel_rfl⟩
def ti2 : TI := ⟨1, [.int .i64 0], 8, .int .i64⟩
theorem tok2 : TOK Try.prog 2 ti2 := ⟨by kernel_rfl, by kernel_rfl⟩
def ti3 : TI := ⟨1, [.int .i64 0], 8, .int .i64⟩
theorem tok3 : TOK Try.prog 3 ti3 := ⟨by kernel_rfl, by kernel_rfl⟩
def ti4 : TI := ⟨1, [.bool false], 1, .plain⟩
theorem tok4 : TOK Try.prog 4 ti4 := ⟨by kernel_rfl, by kernel_rfl⟩
def ti5 : TI := ⟨1, [.int .u8 0], 1, .int .u8⟩
theorem tok5 : TOK Try.prog 5 ti5 := ⟨by kernel_rfl, by kernel_rfl⟩
def ti6 : TI := ⟨1, [.int .u8 0], 1, .int .u8⟩
theorem tok6 : TOK Try.prog 6 ti6 := ⟨by kernel_rfl, by kernel_rfl⟩
def ti7 : TI := ⟨4, [.int .i64 0, .int .i64 0, .bool false, .int .u8 0], 24, .struct [(0, 2), (1, 3), (2, 4), (3, 6)]⟩
theorem tok7 : TOK Try.prog 7 ti7 := ⟨by kernel_rfl, by kernel_rfl⟩
def ti8 : TI := ⟨4, [.int .i64 0, .int .i64 0, .bool false, .int .u8 0], 24, .struct [(0, 2), (1, 3), (2, 4), (3, 6)]⟩
theorem tok8 : TOK Try.prog 8 ti8 := ⟨by kernel_rfl, by kernel_rfl⟩
def ti9 : TI := ⟨1, [.string ByteArray.empty], 16, .plain⟩
theorem tok9 : TOK Try.prog 9 ti9 := ⟨by kernel_rfl, by kernel_rfl⟩
def ti10 : TI := ⟨1, [.string ByteArray.empty], 16, .plain⟩
theorem tok10 : TOK Try.prog 10 ti10 := ⟨by kernel_rfl, by kernel_rfl⟩
def ti11 : TI := ⟨1, [.string ByteArray.empty], 16, .plain⟩
theorem tok11 : TOK Try.prog 11 ti11 := ⟨by kernel_rfl, by kernel_rfl⟩
def ti12 : TI := ⟨1, [.int .u64 0], 8, .int .u64⟩
theorem tok12 : TOK Try.prog 12 ti12 := ⟨by kernel_rfl, by kernel_rfl⟩
def ti13 : TI := ⟨2, [.string ByteArray.empty, .int .u64 0], 24, .struct [(0, 9), (1, 12)]⟩
theorem tok13 : TOK Try.prog 13 ti13 := ⟨by kernel_rfl, by kernel_rfl⟩
def ti14 : TI := ⟨2, [.string ByteArray.empty, .int .u64 0], 24, .struct [(0, 9), (1, 12)]⟩
theorem tok14 : TOK Try.prog 14 ti14 := ⟨by kernel_rfl, by kernel_rfl⟩
def ti15 : TI := ⟨1, [.pointer none], 8, .plain⟩
theorem tok15 : TOK Try.prog 15 ti15 := ⟨by kernel_rfl, by kernel_rfl⟩
def ti16 : TI := ⟨1, [.pointer none], 8, .plain⟩
theorem tok16 : TOK Try.prog 16 ti16 := ⟨by kernel_rfl, by kernel_rfl⟩
def ti17 : TI := ⟨1, [.pointer none], 8, .plain⟩
theorem tok17 : TOK Try.prog 17 ti17 := ⟨by kernel_rfl, by kernel_rfl⟩
def ti18 : TI := ⟨1, [.pointer none], 8, .struct [(0, 17)]⟩
theorem tok18 : TOK Try.prog 18 ti18 := ⟨by kernel_rfl, by kernel_rfl⟩
def ti19 : TI := ⟨1, [.pointer none], 8, .struct [(0, 17)]⟩
theorem tok19 : TOK Try.prog 19 ti19 := ⟨by kernel_rfl, by kernel_rfl⟩
def ti21 : TI := ⟨1, [.int .i32 0], 4, .int .i32⟩
theorem tok21 : TOK Try.prog 21 ti21 := ⟨by kernel_rfl, by kernel_rfl⟩
def ti22 : TI := ⟨1, [.slice none 0 0], 24, .slice 69⟩
theorem tok22 : TOK Try.prog 22 ti22 := ⟨by kernel_rfl, by kernel_rfl⟩
def ti23 : TI := ⟨1, [.slice none 0 0], 24, .slice 113⟩
theorem tok23 : TOK Try.prog 23 ti23 := ⟨by kernel_rfl, by kernel_rfl⟩
def ti24 : TI := ⟨5, [.int .i64 0, .int .i64 0, .int .i64 0, .slice none 0 0, .slice none 0 0], 72, .struct [(0, 3), (1, 3), (2, 3), (3, 22), (4, 23)]⟩
theorem tok24 : TOK Try.prog 24 ti24 := ⟨by kernel_rfl, by kernel_rfl⟩
def ti25 : TI := ⟨5, [.int .i64 0, .int .i64 0, .int .i64 0, .slice none 0 0, .slice none 0 0], 72, .struct [(0, 3), (1, 3), (2, 3), (3, 22), (4, 23)]⟩
theorem tok25 : TOK Try.prog 25 ti25 := ⟨by kernel_rfl, by kernel_rfl⟩
def ti26 : TI := ⟨1, [.nilFunc], 8, .plain⟩
theorem tok26 : TOK Try.prog 26 ti26 := ⟨by kernel_rfl, by kernel_rfl⟩
def ti27 : TI := ⟨1, [.nilFunc], 8, .plain⟩
theorem tok27 : TOK Try.prog 27 ti27 := ⟨by kernel_rfl, by kernel_rfl⟩
def ti28 : TI := ⟨1, [.slice none 0 0], 24, .slice 96⟩
theorem tok28 : TOK Try.prog 28 ti28 := ⟨by kernel_rfl, by kernel_rfl⟩
def ti29 : TI := ⟨1, [.int .i64 0], 8, .int .i64⟩
theorem tok29 : TOK Try.prog 29 ti29 := ⟨by kernel_rfl, by kernel_rfl⟩
def ti31 : TI := ⟨1, [.nilFunc], 8, .plain⟩
theorem tok31 : TOK Try.prog 31 ti31 := ⟨by kernel_rfl, by kernel_rfl⟩
def ti32 : TI := ⟨1, [.slice none 0 0], 24, .slice 57⟩
theorem tok32 : TOK Try.prog 32 ti32 := ⟨by kernel_rfl, by kernel_rfl⟩
def ti33 : TI := ⟨1, [.slice none 0 0], 24, .slice 61⟩
theorem tok33 : TOK Try.prog 33 ti33 := ⟨by kernel_rfl, by kernel_rfl⟩
def ti34 : TI := ⟨5, [.int .i64 0, .int .i64 0, .int .i64 0, .slice none 0 0, .slice none 0 0], 72, .struct [(0, 3), (1, 3), (2, 3), (3, 32), (4, 33)]⟩
theorem tok34 : TOK Try.prog 34 ti34 := ⟨by kernel_rfl, by kernel_rfl⟩
def ti35 : TI := ⟨5, [.int .i64 0, .int .i64 0, .int .i64 0, .slice none 0 0, .slice none 0 0], 72, .struct [(0, 3), (1, 3), (2, 3), (3, 32), (4, 33)]⟩
theorem tok35 : TOK Try.prog 35 ti35 := ⟨by kernel_rfl, by kernel_rfl⟩
def ti36 : TI := ⟨1, [.nilFunc], 8, .plain⟩
theorem tok36 : TOK Try.prog 36 ti36 := ⟨by kernel_rfl, by kernel_rfl⟩
def ti37 : TI := ⟨1, [.slice none 0 0], 24, .slice 89⟩
theorem tok37 : TOK Try.prog 37 ti37 := ⟨by kernel_rfl, by kernel_rfl⟩
def ti38 : TI := ⟨1, [.nilFunc], 8, .plain⟩
theorem tok38 : TOK Try.prog 38 ti38 := ⟨by kernel_rfl, by kernel_rfl⟩
def ti39 : TI := ⟨1, [.nilFunc], 8, .plain⟩
theorem tok39 : TOK Try.prog 39 ti39 := ⟨by kernel_rfl, by kernel_rfl⟩
def ti40 : TI := ⟨1, [.slice none 0 0], 24, .slice 82⟩
theorem tok40 : TOK Try.prog 40 ti40 := ⟨by kernel_rfl, by kernel_rfl⟩
def ti41 : TI := ⟨1, [.nilFunc], 8, .plain⟩
theorem tok41 : TOK Try.prog 41 ti41 := ⟨by kernel_rfl, by kernel_rfl⟩
def ti42 : TI := ⟨1, [.nilFunc], 8, .plain⟩
theorem tok42 : TOK Try.prog 42 ti42 := ⟨by kernel_rfl, by kernel_rfl⟩
def ti43 : TI := ⟨1, [.slice none 0 0], 24, .slice 3⟩
theorem tok43 : TOK Try.prog 43 ti43 := ⟨by kernel_rfl, by kernel_rfl⟩
def ti44 : TI := ⟨1, [.slice none 0 0], 24, .slice 43⟩
theorem tok44 : TOK Try.prog 44 ti44 := ⟨by kernel_rfl, by kernel_rfl⟩
def ti46 : TI := ⟨1, [.nilFunc], 8, .plain⟩
theorem tok46 : TOK Try.prog 46 ti46 := ⟨by kernel_rfl, by kernel_rfl⟩
def ti47 : TI := ⟨1, [.nilFunc], 8, .plain⟩
theorem tok47 : TOK Try.prog 47 ti47 := ⟨by kernel_rfl, by kernel_rfl⟩
def ti48 : TI := ⟨1, [.nilFunc], 8, .plain⟩
theorem tok48 : TOK Try.prog 48 ti48 := ⟨by kernel_rfl, by kernel_rfl⟩
def ti49 : TI := ⟨1, [.nilFunc], 8, .plain⟩
theorem tok49 : TOK Try.prog 49 ti49 := ⟨by kernel_rfl, by kernel_rfl⟩
def ti50 : TI := ⟨1, [.nilFunc], 8, .plain⟩
theorem tok50 : TOK Try.prog 50 ti50 := ⟨by kernel_rfl, by kernel_rfl⟩
def ti51 : TI := ⟨1, [.nilFunc], 8, .plain⟩
theorem tok51 : TOK Try.prog 51 ti51 := ⟨by kernel_rfl, by kernel_rfl⟩
def ti52 : TI := ⟨1, [.int .u16 0], 2, .int .u16⟩
theorem tok52 : TOK Try.prog 52 ti52 := ⟨by kernel_rfl, by kernel_rfl⟩
def ti53 : TI := ⟨1, [.slice none 0 0], 24, .slice 55⟩
theorem tok53 : TOK Try.prog 53 ti53 := ⟨by kernel_rfl, by kernel_rfl⟩
def ti54 : TI := ⟨2, [.int .i64 0, .int .i64 0], 16, .struct [(0, 3), (1, 3)]⟩
theorem tok54 : TOK Try.prog 54 ti54 := ⟨by kernel_rfl, by kernel_rfl⟩
def ti55 : TI := ⟨2, [.int .i64 0, .int .i64 0], 16, .struct [(0, 3), (1, 3)]⟩
theorem tok55 : TOK Try.prog 55 ti55 := ⟨by kernel_rfl, by kernel_rfl⟩
def ti56 : TI := ⟨9, [.slice none 0 0, .int .i64 0, .int .i64 0, .int .i64 0, .int .i64 0, .int .i64 0, .slice none 0 0, .int .i64 0, .int .i64 0], 104, .struct [(0, 53), (1, 55), (3, 3), (4, 3), (5, 3), (6, 53), (7, 3), (8, 3)]⟩
theorem tok56 : TOK Try.prog 56 ti56 := ⟨by kernel_rfl, by kernel_rfl⟩
def ti57 : TI := ⟨9, [.slice none 0 0, .int .i64 0, .int .i64 0, .int .i64 0, .int .i64 0, .int .i64 0, .slice none 0 0, .int .i64 0, .int .i64 0], 104, .struct [(0, 53), (1, 55), (3, 3), (4, 3), (5, 3), (6, 53), (7, 3), (8, 3)]⟩
theorem tok57 : TOK Try.prog 57 ti57 := ⟨by kernel_rfl, by kernel_rfl⟩
def ti58 : TI := ⟨1, [.pointer none], 8, .plain⟩
theorem tok58 : TOK Try.prog 58 ti58 := ⟨by kernel_rfl, by kernel_rfl⟩
def ti59 : TI := ⟨2, [.int .i64 0, .int .i64 0], 16, .struct [(0, 3), (1, 3)]⟩
theorem tok59 : TOK Try.prog 59 ti59 := ⟨by kernel_rfl, by kernel_rfl⟩
def ti60 : TI := ⟨2, [.int .i64 0, .int .i64 0], 16, .struct [(0, 3), (1, 3)]⟩
theorem tok60 : TOK Try.prog 60 ti60 := ⟨by kernel_rfl, by kernel_rfl⟩
def ti61 : TI := ⟨1, [.slice none 0 0], 24, .slice 60⟩
theorem tok61 : TOK Try.prog 61 ti61 := ⟨by kernel_rfl, by kernel_rfl⟩
def ti62 : TI := ⟨1, [.nilFunc], 8, .plain⟩
theorem tok62 : TOK Try.prog 62 ti62 := ⟨by kernel_rfl, by kernel_rfl⟩
def ti63 : TI := ⟨1, [.int .i8 0], 1, .int .i8⟩
theorem tok63 : TOK Try.prog 63 ti63 := ⟨by kernel_rfl, by kernel_rfl⟩
def ti65 : TI := ⟨1, [.nilFunc], 8, .plain⟩
theorem tok65 : TOK Try.prog 65 ti65 := ⟨by kernel_rfl, by kernel_rfl⟩
def ti66 : TI := ⟨1, [.slice none 0 0], 24, .slice 67⟩
theorem tok66 : TOK Try.prog 66 ti66 := ⟨by kernel_rfl, by kernel_rfl⟩
def ti67 : TI := ⟨2, [.int .i64 0, .int .i64 0], 16, .struct [(0, 3), (1, 3)]⟩
theorem tok67 : TOK Try.prog 67 ti67 := ⟨by kernel_rfl, by kernel_rfl⟩
def ti68 : TI := ⟨9, [.slice none 0 0, .int .i64 0, .int .i64 0, .int .i64 0, .int .i64 0, .int .i64 0, .slice none 0 0, .int .i64 0, .int .i64 0], 104, .struct [(0, 66), (1, 67), (3, 3), (4, 3), (5, 3), (6, 66), (7, 3), (8, 3)]⟩
theorem tok68 : TOK Try.prog 68 ti68 := ⟨by kernel_rfl, by kernel_rfl⟩
def ti69 : TI := ⟨9, [.slice none 0 0, .int .i64 0, .int .i64 0, .int .i64 0, .int .i64 0, .int .i64 0, .slice none 0 0, .int .i64 0, .int .i64 0], 104, .struct [(0, 66), (1, 67), (3, 3), (4, 3), (5, 3), (6, 66), (7, 3), (8, 3)]⟩
theorem tok69 : TOK Try.prog 69 ti69 := ⟨by kernel_rfl, by kernel_rfl⟩
def ti70 : TI := ⟨1, [.nilFunc], 8, .plain⟩
theorem tok70 : TOK Try.prog 70 ti70 := ⟨by kernel_rfl, by kernel_rfl⟩
def ti71 : TI := ⟨1, [.nilFunc], 8, .plain⟩
theorem tok71 : TOK Try.prog 71 ti71 := ⟨by kernel_rfl, by kernel_rfl⟩
def ti72 : TI := ⟨1, [.nilFunc], 8, .plain⟩
theorem tok72 : TOK Try.prog 72 ti72 := ⟨by kernel_rfl, by kernel_rfl⟩
def ti73 : TI := ⟨1, [.nilFunc], 8, .plain⟩
theorem tok73 : TOK Try.prog 73 ti73 := ⟨by kernel_rfl, by kernel_rfl⟩
def ti74 : TI := ⟨1, [.nilFunc], 8, .plain⟩
theorem tok74 : TOK Try.prog 74 ti74 := ⟨by kernel_rfl, by kernel_rfl⟩
def ti75 : TI := ⟨1, [.slice none 0 0], 24, .slice 81⟩
theorem tok75 : TOK Try.prog 75 ti75 := ⟨by kernel_rfl, by kernel_rfl⟩
def ti77 : TI := ⟨1, [.nilFunc], 8, .plain⟩
theorem tok77 : TOK Try.prog 77 ti77 := ⟨by kernel_rfl, by kernel_rfl⟩
def ti78 : TI := ⟨1, [.nilFunc], 8, .plain⟩
theorem tok78 : TOK Try.prog 78 ti78 := ⟨by kernel_rfl, by kernel_rfl⟩
def ti79 : TI := ⟨1, [.nilFunc], 8, .plain⟩
theorem tok79 : TOK Try.prog 79 ti79 := ⟨by kernel_rfl, by kernel_rfl⟩
def ti80 : TI := ⟨2, [.int .i64 0, .int .u8 0], 16, .struct [(0, 3), (1, 5)]⟩
theorem tok80 : TOK Try.prog 80 ti80 := ⟨by kernel_rfl, by kernel_rfl⟩
def ti81 : TI := ⟨2, [.int .i64 0, .int .u8 0], 16, .struct [(0, 3), (1, 5)]⟩
theorem tok81 : TOK Try.prog 81 ti81 := ⟨by kernel_rfl, by kernel_rfl⟩
def ti82 : TI := ⟨2, [.int .i64 0, .int .u8 0], 16, .struct [(0, 3), (1, 5)]⟩
theorem tok82 : TOK Try.prog 82 ti82 := ⟨by kernel_rfl, by kernel_rfl⟩
def ti83 : TI := ⟨1, [.nilFunc], 8, .plain⟩
theorem tok83 : TOK Try.prog 83 ti83 := ⟨by kernel_rfl, by kernel_rfl⟩
def ti84 : TI := ⟨1, [.nilFunc], 8, .plain⟩
theorem tok84 : TOK Try.prog 84 ti84 := ⟨by kernel_rfl, by kernel_rfl⟩
def ti85 : TI := ⟨1, [.nilFunc], 8, .plain⟩
theorem tok85 : TOK Try.prog 85 ti85 := ⟨by kernel_rfl, by kernel_rfl⟩
def ti86 : TI := ⟨1, [.nilFunc], 8, .plain⟩
theorem tok86 : TOK Try.prog 86 ti86 := ⟨by kernel_rfl, by kernel_rfl⟩
def ti87 : TI := ⟨1, [.nilFunc], 8, .plain⟩
theorem tok87 : TOK Try.prog 87 ti87 := ⟨by kernel_rfl, by kernel_rfl⟩
def ti88 : TI := ⟨3, [.int .i64 0, .int .i64 0, .int .i64 0], 24, .struct [(0, 3), (1, 3), (2, 3)]⟩
theorem tok88 : TOK Try.prog 88 ti88 := ⟨by kernel_rfl, by kernel_rfl⟩
def ti89 : TI := ⟨3, [.int .i64 0, .int .i64 0, .int .i64 0], 24, .struct [(0, 3), (1, 3), (2, 3)]⟩
theorem tok89 : TOK Try.prog 89 ti89 := ⟨by kernel_rfl, by kernel_rfl⟩
def ti90 : TI := ⟨1, [.nilFunc], 8, .plain⟩
theorem tok90 : TOK Try.prog 90 ti90 := ⟨by kernel_rfl, by kernel_rfl⟩
def ti91 : TI := ⟨1, [.nilFunc], 8, .plain⟩
theorem tok91 : TOK Try.prog 91 ti91 := ⟨by kernel_rfl, by kernel_rfl⟩
def ti93 : TI := ⟨1, [.nilFunc], 8, .plain⟩
theorem tok93 : TOK Try.prog 93 ti93 := ⟨by kernel_rfl, by kernel_rfl⟩
def ti94 : TI := ⟨1, [.nilFunc], 8, .plain⟩
theorem tok94 : TOK Try.prog 94 ti94 := ⟨by kernel_rfl, by kernel_rfl⟩
def ti95 : TI := ⟨1, [.nilFunc], 8, .plain⟩
theorem tok95 : TOK Try.prog 95 ti95 := ⟨by kernel_rfl, by kernel_rfl⟩
def ti96 : TI := ⟨3, [.int .i64 0, .int .i64 0, .int .i64 0], 24, .struct [(0, 3), (1, 3), (2, 3)]⟩
theorem tok96 : TOK Try.prog 96 ti96 := ⟨by kernel_rfl, by kernel_rfl⟩
def ti97 : TI := ⟨1, [.nilFunc], 8, .plain⟩
theorem tok97 : TOK Try.prog 97 ti97 := ⟨by kernel_rfl, by kernel_rfl⟩
def ti98 : TI := ⟨1, [.nilFunc], 8, .plain⟩
theorem tok98 : TOK Try.prog 98 ti98 := ⟨by kernel_rfl, by kernel_rfl⟩
def ti99 : TI := ⟨3, [.slice none 0 0, .int .i64 0, .slice none 0 0], 56, .struct [(0, 43), (1, 3), (2, 44)]⟩
theorem tok99 : TOK Try.prog 99 ti99 := ⟨by kernel_rfl, by kernel_rfl⟩
def ti100 : TI := ⟨3, [.slice none 0 0, .int .i64 0, .slice none 0 0], 56, .struct [(0, 43), (1, 3), (2, 44)]⟩
theorem tok100 : TOK Try.prog 100 ti100 := ⟨by kernel_rfl, by kernel_rfl⟩
def ti102 : TI := ⟨1, [.nilFunc], 8, .plain⟩
theorem tok102 : TOK Try.prog 102 ti102 := ⟨by kernel_rfl, by kernel_rfl⟩
def ti103 : TI := ⟨1, [.nilFunc], 8, .plain⟩
theorem tok103 : TOK Try.prog 103 ti103 := ⟨by kernel_rfl, by kernel_rfl⟩
def ti104 : TI := ⟨1, [.slice none 0 0], 24, .slice 52⟩
theorem tok104 : TOK Try.prog 104 ti104 := ⟨by kernel_rfl, by kernel_rfl⟩
def ti105 : TI := ⟨1, [.slice none 0 0], 24, .slice 158⟩
theorem tok105 : TOK Try.prog 105 ti105 := ⟨by kernel_rfl, by kernel_rfl⟩
def ti106 : TI := ⟨2, [.slice none 0 0, .int .i64 0], 32, .struct [(0, 105), (1, 3)]⟩
theorem tok106 : TOK Try.prog 106 ti106 := ⟨by kernel_rfl, by kernel_rfl⟩
def ti107 : TI := ⟨2, [.slice none 0 0, .int .i64 0], 32, .struct [(0, 105), (1, 3)]⟩
theorem tok107 : TOK Try.prog 107 ti107 := ⟨by kernel_rfl, by kernel_rfl⟩
def ti108 : TI := ⟨1, [.nilFunc], 8, .plain⟩
theorem tok108 : TOK Try.prog 108 ti108 := ⟨by kernel_rfl, by kernel_rfl⟩
def ti110 : TI := ⟨1, [.nilFunc], 8, .plain⟩
theorem tok110 : TOK Try.prog 110 ti110 := ⟨by kernel_rfl, by kernel_rfl⟩
def ti111 : TI := ⟨1, [.nilFunc], 8, .plain⟩
theorem tok111 : TOK Try.prog 111 ti111 := ⟨by kernel_rfl, by kernel_rfl⟩
def ti112 : TI := ⟨1, [.nilFunc], 8, .plain⟩
theorem tok112 : TOK Try.prog 112 ti112 := ⟨by kernel_rfl, by kernel_rfl⟩
def ti113 : TI := ⟨1, [.slice none 0 0], 24, .slice 127⟩
theorem tok113 : TOK Try.prog 113 ti113 := ⟨by kernel_rfl, by kernel_rfl⟩
def ti114 : TI := ⟨1, [.pointer none], 8, .plain⟩
theorem tok114 : TOK Try.prog 114 ti114 := ⟨by kernel_rfl, by kernel_rfl⟩
def ti115 : TI := ⟨1, [.nilFunc], 8, .plain⟩
theorem tok115 : TOK Try.prog 115 ti115 := ⟨by kernel_rfl, by kernel_rfl⟩
def ti116 : TI := ⟨1, [.int .u64 0], 8, .int .u64⟩
theorem tok116 : TOK Try.prog 116 ti116 := ⟨by kernel_rfl, by kernel_rfl⟩
def ti117 : TI := ⟨3, [.int .u64 0, .int .i64 0, .int .i64 0], 24, .struct [(0, 116), (1, 3), (2, 3)]⟩
theorem tok117 : TOK Try.prog 117 ti117 := ⟨by kernel_rfl, by kernel_rfl⟩
def ti118 : TI := ⟨3, [.int .u64 0, .int .i64 0, .int .i64 0], 24, .struct [(0, 116), (1, 3), (2, 3)]⟩
theorem tok118 : TOK Try.prog 118 ti118 := ⟨by kernel_rfl, by kernel_rfl⟩
def ti119 : TI := ⟨1, [.slice none 0 0], 24, .slice 168⟩
theorem tok119 : TOK Try.prog 119 ti119 := ⟨by kernel_rfl, by kernel_rfl⟩
def ti120 : TI := ⟨1, [.nilFunc], 8, .plain⟩
theorem tok120 : TOK Try.prog 120 ti120 := ⟨by kernel_rfl, by kernel_rfl⟩
def ti121 : TI := ⟨8, [.int .i64 0, .int .i64 0, .int .i64 0, .slice none 0 0, .slice none 0 0, .slice none 0 0, .nilFunc, .nilFunc], 112, .struct [(0, 35), (5, 119), (6, 120), (7, 120)]⟩
theorem tok121 : TOK Try.prog 121 ti121 := ⟨by kernel_rfl, by kernel_rfl⟩
def ti122 : TI := ⟨8, [.int .i64 0, .int .i64 0, .int .i64 0, .slice none 0 0, .slice none 0 0, .slice none 0 0, .nilFunc, .nilFunc], 112, .struct [(0, 35), (5, 119), (6, 120), (7, 120)]⟩
theorem tok122 : TOK Try.prog 122 ti122 := ⟨by kernel_rfl, by kernel_rfl⟩
def ti124 : TI := ⟨1, [.nilFunc], 8, .plain⟩
theorem tok124 : TOK Try.prog 124 ti124 := ⟨by kernel_rfl, by kernel_rfl⟩
def ti125 : TI := ⟨1, [.nilFunc], 8, .plain⟩
theorem tok125 : TOK Try.prog 125 ti125 := ⟨by kernel_rfl, by kernel_rfl⟩
def ti126 : TI := ⟨1, [.nilFunc], 8, .plain⟩
theorem tok126 : TOK Try.prog 126 ti126 := ⟨by kernel_rfl, by kernel_rfl⟩
def ti127 : TI := ⟨2, [.int .i64 0, .int .i64 0], 16, .struct [(0, 3), (1, 3)]⟩
theorem tok127 : TOK Try.prog 127 ti127 := ⟨by kernel_rfl, by kernel_rfl⟩
def ti128 : TI := ⟨1, [.nilFunc], 8, .plain⟩
theorem tok128 : TOK Try.prog 128 ti128 := ⟨by kernel_rfl, by kernel_rfl⟩
def ti129 : TI := ⟨1, [.nilFunc], 8, .plain⟩
theorem tok129 : TOK Try.prog 129 ti129 := ⟨by kernel_rfl, by kernel_rfl⟩
def ti130 : TI := ⟨1, [.nilFunc], 8, .plain⟩
theorem tok130 : TOK Try.prog 130 ti130 := ⟨by kernel_rfl, by kernel_rfl⟩
def ti131 : TI := ⟨1, [.nilFunc], 8, .plain⟩
theorem tok131 : TOK Try.prog 131 ti131 := ⟨by kernel_rfl, by kernel_rfl⟩
def ti132 : TI := ⟨1, [.nilFunc], 8, .plain⟩
theorem tok132 : TOK Try.prog 132 ti132 := ⟨by kernel_rfl, by kernel_rfl⟩
def ti133 : TI := ⟨1, [.nilFunc], 8, .plain⟩
theorem tok133 : TOK Try.prog 133 ti133 := ⟨by kernel_rfl, by kernel_rfl⟩
def ti134 : TI := ⟨1, [.nilFunc], 8, .plain⟩
theorem tok134 : TOK Try.prog 134 ti134 := ⟨by kernel_rfl, by kernel_rfl⟩
def ti135 : TI := ⟨1, [.nilFunc], 8, .plain⟩
theorem tok135 : TOK Try.prog 135 ti135 := ⟨by kernel_rfl, by kernel_rfl⟩
def ti136 : TI := ⟨1, [.nilFunc], 8, .plain⟩
theorem tok136 : TOK Try.prog 136 ti136 := ⟨by kernel_rfl, by kernel_rfl⟩
def ti137 : TI := ⟨1, [.nilFunc], 8, .plain⟩
theorem tok137 : TOK Try.prog 137 ti137 := ⟨by kernel_rfl, by kernel_rfl⟩
def ti138 : TI := ⟨1, [.nilFunc], 8, .plain⟩
theorem tok138 : TOK Try.prog 138 ti138 := ⟨by kernel_rfl, by kernel_rfl⟩
def ti139 : TI := ⟨1, [.nilFunc], 8, .plain⟩
theorem tok139 : TOK Try.prog 139 ti139 := ⟨by kernel_rfl, by kernel_rfl⟩
def ti140 : TI := ⟨1, [.nilFunc], 8, .plain⟩
theorem tok140 : TOK Try.prog 140 ti140 := ⟨by kernel_rfl, by kernel_rfl⟩
def ti141 : TI := ⟨1, [.nilFunc], 8, .plain⟩
theorem tok141 : TOK Try.prog 141 ti141 := ⟨by kernel_rfl, by kernel_rfl⟩
def ti142 : TI := ⟨1, [.nilFunc], 8, .plain⟩
theorem tok142 : TOK Try.prog 142 ti142 := ⟨by kernel_rfl, by kernel_rfl⟩
def ti143 : TI := ⟨1, [.nilFunc], 8, .plain⟩
theorem tok143 : TOK Try.prog 143 ti143 := ⟨by kernel_rfl, by kernel_rfl⟩
def ti144 : TI := ⟨1, [.nilFunc], 8, .plain⟩
theorem tok144 : TOK Try.prog 144 ti144 := ⟨by kernel_rfl, by kernel_rfl⟩
def ti145 : TI := ⟨1, [.nilFunc], 8, .plain⟩
theorem tok145 : TOK Try.prog 145 ti145 := ⟨by kernel_rfl, by kernel_rfl⟩
def ti146 : TI := ⟨1, [.nilFunc], 8, .plain⟩
theorem tok146 : TOK Try.prog 146 ti146 := ⟨by kernel_rfl, by kernel_rfl⟩
def ti147 : TI := ⟨1, [.nilFunc], 8, .plain⟩
theorem tok147 : TOK Try.prog 147 ti147 := ⟨by kernel_rfl, by kernel_rfl⟩
def ti148 : TI := ⟨1, [.nilFunc], 8, .plain⟩
theorem tok148 : TOK Try.prog 148 ti148 := ⟨by kernel_rfl, by kernel_rfl⟩
def ti149 : TI := ⟨1, [.nilFunc], 8, .plain⟩
theorem tok149 : TOK Try.prog 149 ti149 := ⟨by kernel_rfl, by kernel_rfl⟩
def ti150 : TI := ⟨4, [.int .i64 0, .int .i64 0, .int .i64 0, .int .i64 0], 32, .struct [(0, 3), (1, 3), (2, 3), (3, 3)]⟩
theorem tok150 : TOK Try.prog 150 ti150 := ⟨by kernel_rfl, by kernel_rfl⟩
def ti151 : TI := ⟨4, [.int .i64 0, .int .i64 0, .int .i64 0, .int .i64 0], 32, .struct [(0, 3), (1, 3), (2, 3), (3, 3)]⟩
theorem tok151 : TOK Try.prog 151 ti151 := ⟨by kernel_rfl, by kernel_rfl⟩
def ti152 : TI := ⟨1, [.slice none 0 0], 24, .slice 154⟩
theorem tok152 : TOK Try.prog 152 ti152 := ⟨by kernel_rfl, by kernel_rfl⟩
def ti153 : TI := ⟨2, [.int .i64 0, .slice none 0 0], 32, .struct [(0, 3), (1, 43)]⟩
theorem tok153 : TOK Try.prog 153 ti153 := ⟨by kernel_rfl, by kernel_rfl⟩
def ti154 : TI := ⟨2, [.int .i64 0, .slice none 0 0], 32, .struct [(0, 3), (1, 43)]⟩
theorem tok154 : TOK Try.prog 154 ti154 := ⟨by kernel_rfl, by kernel_rfl⟩
def ti156 : TI := ⟨1, [.nilFunc], 8, .plain⟩
theorem tok156 : TOK Try.prog 156 ti156 := ⟨by kernel_rfl, by kernel_rfl⟩
def ti157 : TI := ⟨4, [.int .i64 0, .int .i64 0, .int .i64 0, .bool false], 32, .struct [(0, 3), (1, 3), (2, 3), (3, 4)]⟩
theorem tok157 : TOK Try.prog 157 ti157 := ⟨by kernel_rfl, by kernel_rfl⟩
def ti158 : TI := ⟨4, [.int .i64 0, .int .i64 0, .int .i64 0, .bool false], 32, .struct [(0, 3), (1, 3), (2, 3), (3, 4)]⟩
theorem tok158 : TOK Try.prog 158 ti158 := ⟨by kernel_rfl, by kernel_rfl⟩
def ti159 : TI := ⟨4, [.slice none 0 0, .int .i64 0, .slice none 0 0, .slice none 0 0], 80, .struct [(0, 107), (2, 43), (3, 43)]⟩
theorem tok159 : TOK Try.prog 159 ti159 := ⟨by kernel_rfl, by kernel_rfl⟩
def ti160 : TI := ⟨4, [.slice none 0 0, .int .i64 0, .slice none 0 0, .slice none 0 0], 80, .struct [(0, 107), (2, 43), (3, 43)]⟩
theorem tok160 : TOK Try.prog 160 ti160 := ⟨by kernel_rfl, by kernel_rfl⟩
def ti161 : TI := ⟨1, [.nilFunc], 8, .plain⟩
theorem tok161 : TOK Try.prog 161 ti161 := ⟨by kernel_rfl, by kernel_rfl⟩
def ti162 : TI := ⟨1, [.nilFunc], 8, .plain⟩
theorem tok162 : TOK Try.prog 162 ti162 := ⟨by kernel_rfl, by kernel_rfl⟩
def ti163 : TI := ⟨1, [.nilFunc], 8, .plain⟩
theorem tok163 : TOK Try.prog 163 ti163 := ⟨by kernel_rfl, by kernel_rfl⟩
def ti164 : TI := ⟨1, [.nilFunc], 8, .plain⟩
theorem tok164 : TOK Try.prog 164 ti164 := ⟨by kernel_rfl, by kernel_rfl⟩
def ti165 : TI := ⟨1, [.nilFunc], 8, .plain⟩
theorem tok165 : TOK Try.prog 165 ti165 := ⟨by kernel_rfl, by kernel_rfl⟩
def ti166 : TI := ⟨1, [.nilFunc], 8, .plain⟩
theorem tok166 : TOK Try.prog 166 ti166 := ⟨by kernel_rfl, by kernel_rfl⟩
def ti167 : TI := ⟨1, [.nilFunc], 8, .plain⟩
theorem tok167 : TOK Try.prog 167 ti167 := ⟨by kernel_rfl, by kernel_rfl⟩
def ti168 : TI := ⟨1, [.slice none 0 0], 24, .slice 28⟩
theorem tok168 : TOK Try.prog 168 ti168 := ⟨by kernel_rfl, by kernel_rfl⟩
def ti169 : TI := ⟨1, [.map none], 8, .plain⟩
theorem tok169 : TOK Try.prog 169 ti169 := ⟨by kernel_rfl, by kernel_rfl⟩
def ti170 : TI := ⟨1, [.nilFunc], 8, .plain⟩
theorem tok170 : TOK Try.prog 170 ti170 := ⟨by kernel_rfl, by kernel_rfl⟩
def ti171 : TI := ⟨1, [.nilFunc], 8, .plain⟩
theorem tok171 : TOK Try.prog 171 ti171 := ⟨by kernel_rfl, by kernel_rfl⟩
def ti172 : TI := ⟨1, [.nilFunc], 8, .plain⟩
theorem tok172 : TOK Try.prog 172 ti172 := ⟨by kernel_rfl, by kernel_rfl⟩
def ti173 : TI := ⟨1, [.nilFunc], 8, .plain⟩
theorem tok173 : TOK Try.prog 173 ti173 := ⟨by kernel_rfl, by kernel_rfl⟩
def ti174 : TI := ⟨1, [.nilFunc], 8, .plain⟩
theorem tok174 : TOK Try.prog 174 ti174 := ⟨by kernel_rfl, by kernel_rfl⟩
def ti175 : TI := ⟨1, [.nilFunc], 8, .plain⟩
theorem tok175 : TOK Try.prog 175 ti175 := ⟨by kernel_rfl, by kernel_rfl⟩
def ti176 : TI := ⟨1, [.nilFunc], 8, .plain⟩
theorem tok176 : TOK Try.prog 176 ti176 := ⟨by kernel_rfl, by kernel_rfl⟩
def ti177 : TI := ⟨1, [.nilFunc], 8, .plain⟩
theorem tok177 : TOK Try.prog 177 ti177 := ⟨by kernel_rfl, by kernel_rfl⟩
def ti178 : TI := ⟨1, [.slice none 0 0], 24, .slice 192⟩
theorem tok178 : TOK Try.prog 178 ti178 := ⟨by kernel_rfl, by kernel_rfl⟩
def ti179 : TI := ⟨1, [.nilFunc], 8, .plain⟩
theorem tok179 : TOK Try.prog 179 ti179 := ⟨by kernel_rfl, by kernel_rfl⟩
def ti180 : TI := ⟨1, [.nilFunc], 8, .plain⟩
theorem tok180 : TOK Try.prog 180 ti180 := ⟨by kernel_rfl, by kernel_rfl⟩
def ti181 : TI := ⟨1, [.nilFunc], 8, .plain⟩
theorem tok181 : TOK Try.prog 181 ti181 := ⟨by kernel_rfl, by kernel_rfl⟩
def ti182 : TI := ⟨4, [.slice none 0 0, .int .i64 0, .slice none 0 0, .slice none 0 0], 80, .struct [(0, 100), (3, 152)]⟩
theorem tok182 : TOK Try.prog 182 ti182 := ⟨by kernel_rfl, by kernel_rfl⟩
def ti183 : TI := ⟨4, [.slice none 0 0, .int .i64 0, .slice none 0 0, .slice none 0 0], 80, .struct [(0, 100), (3, 152)]⟩
theorem tok183 : TOK Try.prog 183 ti183 := ⟨by kernel_rfl, by kernel_rfl⟩
def ti184 : TI := ⟨1, [.nilFunc], 8, .plain⟩
theorem tok184 : TOK Try.prog 184 ti184 := ⟨by kernel_rfl, by kernel_rfl⟩
def ti185 : TI := ⟨1, [.nilFunc], 8, .plain⟩
theorem tok185 : TOK Try.prog 185 ti185 := ⟨by kernel_rfl, by kernel_rfl⟩
def ti186 : TI := ⟨1, [.nilFunc], 8, .plain⟩
theorem tok186 : TOK Try.prog 186 ti186 := ⟨by kernel_rfl, by kernel_rfl⟩
def ti187 : TI := ⟨1, [.nilFunc], 8, .plain⟩
theorem tok187 : TOK Try.prog 187 ti187 := ⟨by kernel_rfl, by kernel_rfl⟩
def ti188 : TI := ⟨1, [.nilFunc], 8, .plain⟩
theorem tok188 : TOK Try.prog 188 ti188 := ⟨by kernel_rfl, by kernel_rfl⟩
def ti189 : TI := ⟨1, [.nilFunc], 8, .plain⟩
theorem tok189 : TOK Try.prog 189 ti189 := ⟨by kernel_rfl, by kernel_rfl⟩
def ti190 : TI := ⟨1, [.nilFunc], 8, .plain⟩
theorem tok190 : TOK Try.prog 190 ti190 := ⟨by kernel_rfl, by kernel_rfl⟩
def ti191 : TI := ⟨2, [.int .u8 0, .nilFunc], 16, .struct [(0, 5), (1, 190)]⟩
theorem tok191 : TOK Try.prog 191 ti191 := ⟨by kernel_rfl, by kernel_rfl⟩
def ti192 : TI := ⟨2, [.int .u8 0, .nilFunc], 16, .struct [(0, 5), (1, 190)]⟩
theorem tok192 : TOK Try.prog 192 ti192 := ⟨by kernel_rfl, by kernel_rfl⟩
def ti193 : TI := ⟨1, [.nilFunc], 8, .plain⟩
theorem tok193 : TOK Try.prog 193 ti193 := ⟨by kernel_rfl, by kernel_rfl⟩
def ti194 : TI := ⟨1, [.nilFunc], 8, .plain⟩
theorem tok194 : TOK Try.prog 194 ti194 := ⟨by kernel_rfl, by kernel_rfl⟩
def ti195 : TI := ⟨1, [.nilFunc], 8, .plain⟩
theorem tok195 : TOK Try.prog 195 ti195 := ⟨by kernel_rfl, by kernel_rfl⟩
def ti196 : TI := ⟨1, [.nilFunc], 8, .plain⟩
theorem tok196 : TOK Try.prog 196 ti196 := ⟨by kernel_rfl, by kernel_rfl⟩
def ti197 : TI := ⟨1, [.nilFunc], 8, .plain⟩
theorem tok197 : TOK Try.prog 197 ti197 := ⟨by kernel_rfl, by kernel_rfl⟩
def ti198 : TI := ⟨1, [.nilFunc], 8, .plain⟩
theorem tok198 : TOK Try.prog 198 ti198 := ⟨by kernel_rfl, by kernel_rfl⟩
def ti199 : TI := ⟨1, [.nilFunc], 8, .plain⟩
theorem tok199 : TOK Try.prog 199 ti199 := ⟨by kernel_rfl, by kernel_rfl⟩
def ti200 : TI := ⟨1, [.int .u64 0], 8, .int .u64⟩
theorem tok200 : TOK Try.prog 200 ti200 := ⟨by kernel_rfl, by kernel_rfl⟩
def ti201 : TI := ⟨2, [.int .i64 0, .int .i64 0], 16, .arr 2 3⟩
theorem tok201 : TOK Try.prog 201 ti201 := ⟨by kernel_rfl, by kernel_rfl⟩
def ti202 : TI := ⟨1, [.nilFunc], 8, .plain⟩
theorem tok202 : TOK Try.prog 202 ti202 := ⟨by kernel_rfl, by kernel_rfl⟩
def ti203 : TI := ⟨1, [.nilFunc], 8, .plain⟩
theorem tok203 : TOK Try.prog 203 ti203 := ⟨by kernel_rfl, by kernel_rfl⟩
def ti204 : TI := ⟨1, [.nilFunc], 8, .plain⟩
theorem tok204 : TOK Try.prog 204 ti204 := ⟨by kernel_rfl, by kernel_rfl⟩
def ti205 : TI := ⟨1, [.nilFunc], 8, .plain⟩
theorem tok205 : TOK Try.prog 205 ti205 := ⟨by kernel_rfl, by kernel_rfl⟩
def ti206 : TI := ⟨1, [.nilFunc], 8, .plain⟩
theorem tok206 : TOK Try.prog 206 ti206 := ⟨by kernel_rfl, by kernel_rfl⟩
def ti207 : TI := ⟨1, [.nilFunc], 8, .plain⟩
theorem tok207 : TOK Try.prog 207 ti207 := ⟨by kernel_rfl, by kernel_rfl⟩
def ti208 : TI := ⟨1, [.nilFunc], 8, .plain⟩
theorem tok208 : TOK Try.prog 208 ti208 := ⟨by kernel_rfl, by kernel_rfl⟩
def ti209 : TI := ⟨4, [.pointer none, .pointer none, .pointer none, .string ByteArray.empty], 40, .struct [(0, 17), (1, 17), (2, 17), (3, 9)]⟩
theorem tok209 : TOK Try.prog 209 ti209 := ⟨by kernel_rfl, by kernel_rfl⟩
def ti210 : TI := ⟨4, [.pointer none, .pointer none, .pointer none, .string ByteArray.empty], 40, .struct [(0, 17), (1, 17), (2, 17), (3, 9)]⟩
theorem tok210 : TOK Try.prog 210 ti210 := ⟨by kernel_rfl, by kernel_rfl⟩
def ti211 : TI := ⟨0, [], 0, .arr 0 16⟩
theorem tok211 : TOK Try.prog 211 ti211 := ⟨by kernel_rfl, by kernel_rfl⟩
def ti212 : TI := ⟨0, [], 0, .struct [(0, 211)]⟩
theorem tok212 : TOK Try.prog 212 ti212 := ⟨by kernel_rfl, by kernel_rfl⟩
def ti213 : TI := ⟨0, [], 0, .struct [(0, 211)]⟩
theorem tok213 : TOK Try.prog 213 ti213 := ⟨by kernel_rfl, by kernel_rfl⟩
def ti214 : TI := ⟨1, [.nilFunc], 8, .plain⟩
theorem tok214 : TOK Try.prog 214 ti214 := ⟨by kernel_rfl, by kernel_rfl⟩
def ti215 : TI := ⟨1, [.int .u32 0], 4, .int .u32⟩
theorem tok215 : TOK Try.prog 215 ti215 := ⟨by kernel_rfl, by kernel_rfl⟩
def ti216 : TI := ⟨1, [.int .u8 0], 1, .int .u8⟩
theorem tok216 : TOK Try.prog 216 ti216 := ⟨by kernel_rfl, by kernel_rfl⟩
def ti217 : TI := ⟨1, [.int .u8 0], 1, .int .u8⟩
theorem tok217 : TOK Try.prog 217 ti217 := ⟨by kernel_rfl, by kernel_rfl⟩
def ti218 : TI := ⟨1, [.nilFunc], 8, .plain⟩
theorem tok218 : TOK Try.prog 218 ti218 := ⟨by kernel_rfl, by kernel_rfl⟩
def ti219 : TI := ⟨1, [.pointer none], 8, .plain⟩
theorem tok219 : TOK Try.prog 219 ti219 := ⟨by kernel_rfl, by kernel_rfl⟩
def ti220 : TI := ⟨1, [.int .i32 0], 4, .int .i32⟩
theorem tok220 : TOK Try.prog 220 ti220 := ⟨by kernel_rfl, by kernel_rfl⟩
def ti221 : TI := ⟨1, [.int .i32 0], 4, .int .i32⟩
theorem tok221 : TOK Try.prog 221 ti221 := ⟨by kernel_rfl, by kernel_rfl⟩
def ti222 : TI := ⟨11, [.int .u64 0, .int .u64 0, .int .u32 0, .int .u8 0, .int .u8 0, .int .u8 0, .int .u8 0, .nilFunc, .pointer none, .int .i32 0, .int .i32 0], 48, .struct [(0, 12), (1, 12), (2, 215), (3, 216), (4, 5), (5, 5), (6, 217), (7, 218), (8, 219), (9, 220), (10, 221)]⟩
theorem tok222 : TOK Try.prog 222 ti222 := ⟨by kernel_rfl, by kernel_rfl⟩
def ti223 : TI := ⟨11, [.int .u64 0, .int .u64 0, .int .u32 0, .int .u8 0, .int .u8 0, .int .u8 0, .int .u8 0, .nilFunc, .pointer none, .int .i32 0, .int .i32 0], 48, .struct [(0, 12), (1, 12), (2, 215), (3, 216), (4, 5), (5, 5), (6, 217), (7, 218), (8, 219), (9, 220), (10, 221)]⟩
theorem tok223 : TOK Try.prog 223 ti223 := ⟨by kernel_rfl, by kernel_rfl⟩
def ti224 : TI := ⟨1, [.pointer none], 8, .plain⟩
theorem tok224 : TOK Try.prog 224 ti224 := ⟨by kernel_rfl, by kernel_rfl⟩
def tys : List (Nat × TI) := [(1, ti1), (2, ti2), (3, ti3), (4, ti4), (5, ti5), (6, ti6), (7, ti7), (8, ti8), (9, ti9), (10, ti10), (11, ti11), (12, ti12), (13, ti13), (14, ti14), (15, ti15), (16, ti16), (17, ti17), (18, ti18), (19, ti19), (21, ti21), (22, ti22), (23, ti23), (24, ti24), (25, ti25), (26, ti26), (27, ti27), (28, ti28), (29, ti29), (31, ti31), (32, ti32), (33, ti33), (34, ti34), (35, ti35), (36, ti36), (37, ti37), (38, ti38), (39, ti39), (40, ti40), (41, ti41), (42, ti42), (43, ti43), (44, ti44), (46, ti46), (47, ti47), (48, ti48), (49, ti49), (50, ti50), (51, ti51), (52, ti52), (53, ti53), (54, ti54), (55, ti55), (56, ti56), (57, ti57), (58, ti58), (59, ti59), (60, ti60), (61, ti61), (62, ti62), (63, ti63), (65, ti65), (66, ti66), (67, ti67), (68, ti68), (69, ti69), (70, ti70), (71, ti71), (72, ti72), (73, ti73), (74, ti74), (75, ti75), (77, ti77), (78, ti78), (79, ti79), (80, ti80), (81, ti81), (82, ti82), (83, ti83), (84, ti84), (85, ti85), (86, ti86), (87, ti87), (88, ti88), (89, ti89), (90, ti90), (91, ti91), (93, ti93), (94, ti94), (95, ti95), (96, ti96), (97, ti97), (98, ti98), (99, ti99), (100, ti100), (102, ti102), (103, ti103), (104, ti104), (105, ti105), (106, ti106), (107, ti107), (108, ti108), (110, ti110), (111, ti111), (112, ti112), (113, ti113), (114, ti114), (115, ti115), (116, ti116), (117, ti117), (118, ti118), (119, ti119), (120, ti120), (121, ti121), (122, ti122), (124, ti124), (125, ti125), (126, ti126), (127, ti127), (128, ti128), (129, ti129), (130, ti130), (131, ti131), (132, ti132), (133, ti133), (134, ti134), (135, ti135), (136, ti136), (137, ti137), (138, ti138), (139, ti139), (140, ti140), (141, ti141), (142, ti142), (143, ti143), (144, ti144), (145, ti145), (146, ti146), (147, ti147), (148, ti148), (149, ti149), (150, ti150), (151, ti151), (152, ti152), (153, ti153), (154, ti154), (156, ti156), (157, ti157), (158, ti158), (159, ti159), (160, ti160), (161, ti161), (162, ti162), (163, ti163), (164, ti164), (165, ti165), (166, ti166), (167, ti167), (168, ti168), (169, ti169), (170, ti170), (171, ti171), (172, ti172), (173, ti173), (174, ti174), (175, ti175), (176, ti176), (177, ti177), (178, ti178), (179, ti179), (180, ti180), (181, ti181), (182, ti182), (183, ti183), (184, ti184), (185, ti185), (186, ti186), (187, ti187), (188, ti188), (189, ti189), (190, ti190), (191, ti191), (192, ti192), (193, ti193), (194, ti194), (195, ti195), (196, ti196), (197, ti197), (198, ti198), (199, ti199), (200, ti200), (201, ti201), (202, ti202), (203, ti203), (204, ti204), (205, ti205), (206, ti206), (207, ti207), (208, ti208), (209, ti209), (210, ti210), (211, ti211), (212, ti212), (213, ti213), (214, ti214), (215, ti215), (216, ti216), (217, ti217), (218, ti218), (219, ti219), (220, ti220), (221, ti221), (222, ti222), (223, ti223), (224, ti224)]
theorem tys_ok : AllT Try.prog tys := ⟨tok1, tok2, tok3, tok4, tok5, tok6, tok7, tok8, tok9, tok10, tok11, tok12, tok13, tok14, tok15, tok16, tok17, tok18, tok19, tok21, tok22, tok23, tok24, tok25, tok26, tok27, tok28, tok29, tok31, tok32, tok33, tok34, tok35, tok36, tok37, tok38, tok39, tok40, tok41, tok42, tok43, tok44, tok46, tok47, tok48, tok49, tok50, tok51, tok52, tok53, tok54, tok55, tok56, tok57, tok58, tok59, tok60, tok61, tok62, tok63, tok65, tok66, tok67, tok68, tok69, tok70, tok71, tok72, tok73, tok74, tok75, tok77, tok78, tok79, tok80, tok81, tok82, tok83, tok84, tok85, tok86, tok87, tok88, tok89, tok90, tok91, tok93, tok94, tok95, tok96, tok97, tok98, tok99, tok100, tok102, tok103, tok104, tok105, tok106, tok107, tok108, tok110, tok111, tok112, tok113, tok114, tok115, tok116, tok117, tok118, tok119, tok120, tok121, tok122, tok124, tok125, tok126, tok127, tok128, tok129, tok130, tok131, tok132, tok133, tok134, tok135, tok136, tok137, tok138, tok139, tok140, tok141, tok142, tok143, tok144, tok145, tok146, tok147, tok148, tok149, tok150, tok151, tok152, tok153, tok154, tok156, tok157, tok158, tok159, tok160, tok161, tok162, tok163, tok164, tok165, tok166, tok167, tok168, tok169, tok170, tok171, tok172, tok173, tok174, tok175, tok176, tok177, tok178, tok179, tok180, tok181, tok182, tok183, tok184, tok185, tok186, tok187, tok188, tok189, tok190, tok191, tok192, tok193, tok194, tok195, tok196, tok197, tok198, tok199, tok200, tok201, tok202, tok203, tok204, tok205, tok206, tok207, tok208, tok209, tok210, tok211, tok212, tok213, tok214, tok215, tok216, tok217, tok218, tok219, tok220, tok221, tok222, tok223, tok224, trivial⟩
theorem fok3 (args : Array Value) (w : World) : (callFunc 3 args).run Try.prog w = .ok (.enter 3 args) w := callFunc_in Try.func3 (by kernel_rfl) (by kernel_rfl) args w
theorem fok4 (args : Array Value) (w : World) : (callFunc 4 args).run Try.prog w = .ok (.enter 4 args) w := callFunc_in Try.func4 (by kernel_rfl) (by kernel_rfl) args w
theorem fok5 (args : Array Value) (w : World) : (callFunc 5 args).run Try.prog w = .ok (.enter 5 args) w := callFunc_in Try.func5 (by kernel_rfl) (by kernel_rfl) args w
theorem fok6 (args : Array Value) (w : World) : (callFunc 6 args).run Try.prog w = .ok (.enter 6 args) w := callFunc_in Try.func6 (by kernel_rfl) (by kernel_rfl) args w
theorem fok7 (args : Array Value) (w : World) : (callFunc 7 args).run Try.prog w = .ok (.enter 7 args) w := callFunc_in Try.func7 (by kernel_rfl) (by kernel_rfl) args w
theorem fok8 (args : Array Value) (w : World) : (callFunc 8 args).run Try.prog w = .ok (.enter 8 args) w := callFunc_in Try.func8 (by kernel_rfl) (by kernel_rfl) args w
theorem fok9 (args : Array Value) (w : World) : (callFunc 9 args).run Try.prog w = .ok (.enter 9 args) w := callFunc_in Try.func9 (by kernel_rfl) (by kernel_rfl) args w
theorem fok10 (args : Array Value) (w : World) : (callFunc 10 args).run Try.prog w = .ok (.enter 10 args) w := callFunc_in Try.func10 (by kernel_rfl) (by kernel_rfl) args w
theorem fok11 (args : Array Value) (w : World) : (callFunc 11 args).run Try.prog w = .ok (.enter 11 args) w := callFunc_in Try.func11 (by kernel_rfl) (by kernel_rfl) args w
theorem fok12 (args : Array Value) (w : World) : (callFunc 12 args).run Try.prog w = .ok (.enter 12 args) w := callFunc_in Try.func12 (by kernel_rfl) (by kernel_rfl) args w
theorem fok13 (args : Array Value) (w : World) : (callFunc 13 args).run Try.prog w = .ok (.enter 13 args) w := callFunc_in Try.func13 (by kernel_rfl) (by kernel_rfl) args w
theorem fok14 (args : Array Value) (w : World) : (callFunc 14 args).run Try.prog w = .ok (.enter 14 args) w := callFunc_in Try.func14 (by kernel_rfl) (by kernel_rfl) args w
theorem fok15 (args : Array Value) (w : World) : (callFunc 15 args).run Try.prog w = .ok (.enter 15 args) w := callFunc_in Try.func15 (by kernel_rfl) (by kernel_rfl) args w
theorem fok16 (args : Array Value) (w : World) : (callFunc 16 args).run Try.prog w = .ok (.enter 16 args) w := callFunc_in Try.func16 (by kernel_rfl) (by kernel_rfl) args w
theorem fok17 (args : Array Value) (w : World) : (callFunc 17 args).run Try.prog w = .ok (.enter 17 args) w := callFunc_in Try.func17 (by kernel_rfl) (by kernel_rfl) args w
theorem fok18 (args : Array Value) (w : World) : (callFunc 18 args).run Try.prog w = .ok (.enter 18 args) w := callFunc_in Try.func18 (by kernel_rfl) (by kernel_rfl) args w
theorem fok19 (args : Array Value) (w : World) : (callFunc 19 args).run Try.prog w = .ok (.enter 19 args) w := callFunc_in Try.func19 (by kernel_rfl) (by kernel_rfl) args w
theorem fok20 (args : Array Value) (w : World) : (callFunc 20 args).run Try.prog w = .ok (.enter 20 args) w := callFunc_in Try.func20 (by kernel_rfl) (by kernel_rfl) args w
theorem fok21 (args : Array Value) (w : World) : (callFunc 21 args).run Try.prog w = .ok (.enter 21 args) w := callFunc_in Try.func21 (by kernel_rfl) (by kernel_rfl) args w
theorem fok22 (args : Array Value) (w : World) : (callFunc 22 args).run Try.prog w = .ok (.enter 22 args) w := callFunc_in Try.func22 (by kernel_rfl) (by kernel_rfl) args w
theorem fok23 (args : Array Value) (w : World) : (callFunc 23 args).run Try.prog w = .ok (.enter 23 args) w := callFunc_in Try.func23 (by kernel_rfl) (by kernel_rfl) args w
theorem fok24 (args : Array Value) (w : World) : (callFunc 24 args).run Try.prog w = .ok (.enter 24 args) w := callFunc_in Try.func24 (by kernel_rfl) (by kernel_rfl) args w
theorem fok25 (args : Array Value) (w : World) : (callFunc 25 args).run Try.prog w = .ok (.enter 25 args) w := callFunc_in Try.func25 (by kernel_rfl) (by kernel_rfl) args w
theorem fok26 (args : Array Value) (w : World) : (callFunc 26 args).run Try.prog w = .ok (.enter 26 args) w := callFunc_in Try.func26 (by kernel_rfl) (by kernel_rfl) args w
theorem fok27 (args : Array Value) (w : World) : (callFunc 27 args).run Try.prog w = .ok (.enter 27 args) w := callFunc_in Try.func27 (by kernel_rfl) (by kernel_rfl) args w
theorem fok28 (args : Array Value) (w : World) : (callFunc 28 args).run Try.prog w = .ok (.enter 28 args) w := callFunc_in Try.func28 (by kernel_rfl) (by kernel_rfl) args w
theorem fok29 (args : Array Value) (w : World) : (callFunc 29 args).run Try.prog w = .ok (.enter 29 args) w := callFunc_in Try.func29 (by kernel_rfl) (by kernel_rfl) args w
theorem fok30 (args : Array Value) (w : World) : (callFunc 30 args).run Try.prog w = .ok (.enter 30 args) w := callFunc_in Try.func30 (by kernel_rfl) (by kernel_rfl) args w
theorem fok31 (args : Array Value) (w : World) : (callFunc 31 args).run Try.prog w = .ok (.enter 31 args) w := callFunc_in Try.func31 (by kernel_rfl) (by kernel_rfl) args w
theorem fok32 (args : Array Value) (w : World) : (callFunc 32 args).run Try.prog w = .ok (.enter 32 args) w := callFunc_in Try.func32 (by kernel_rfl) (by kernel_rfl) args w
theorem fok33 (args : Array Value) (w : World) : (callFunc 33 args).run Try.prog w = .ok (.enter 33 args) w := callFunc_in Try.func33 (by kernel_rfl) (by kernel_rfl) args w
theorem fok34 (args : Array Value) (w : World) : (callFunc 34 args).run Try.prog w = .ok (.enter 34 args) w := callFunc_in Try.func34 (by kernel_rfl) (by kernel_rfl) args w
theorem fok35 (args : Array Value) (w : World) : (callFunc 35 args).run Try.prog w = .ok (.enter 35 args) w := callFunc_in Try.func35 (by kernel_rfl) (by kernel_rfl) args w
theorem fok36 (args : Array Value) (w : World) : (callFunc 36 args).run Try.prog w = .ok (.enter 36 args) w := callFunc_in Try.func36 (by kernel_rfl) (by kernel_rfl) args w
theorem fok37 (args : Array Value) (w : World) : (callFunc 37 args).run Try.prog w = .ok (.enter 37 args) w := callFunc_in Try.func37 (by kernel_rfl) (by kernel_rfl) args w
theorem fok38 (args : Array Value) (w : World) : (callFunc 38 args).run Try.prog w = .ok (.enter 38 args) w := callFunc_in Try.func38 (by kernel_rfl) (by kernel_rfl) args w
theorem fok39 (args : Array Value) (w : World) : (callFunc 39 args).run Try.prog w = .ok (.enter 39 args) w := callFunc_in Try.func39 (by kernel_rfl) (by kernel_rfl) args w
theorem fok40 (args : Array Value) (w : World) : (callFunc 40 args).run Try.prog w = .ok (.enter 40 args) w := callFunc_in Try.func40 (by kernel_rfl) (by kernel_rfl) args w
theorem fok41 (args : Array Value) (w : World) : (callFunc 41 args).run Try.prog w = .ok (.enter 41 args) w := callFunc_in Try.func41 (by kernel_rfl) (by kernel_rfl) args w
theorem fok42 (args : Array Value) (w : World) : (callFunc 42 args).run Try.prog w = .ok (.enter 42 args) w := callFunc_in Try.func42 (by kernel_rfl) (by kernel_rfl) args w
theorem fok43 (args : Array Value) (w : World) : (callFunc 43 args).run Try.prog w = .ok (.enter 43 args) w := callFunc_in Try.func43 (by kernel_rfl) (by kernel_rfl) args w
theorem fok44 (args : Array Value) (w : World) : (callFunc 44 args).run Try.prog w = .ok (.enter 44 args) w := callFunc_in Try.func44 (by kernel_rfl) (by kernel_rfl) args w
theorem fok45 (args : Array Value) (w : World) : (callFunc 45 args).run Try.prog w = .ok (.enter 45 args) w := callFunc_in Try.func45 (by kernel_rfl) (by kernel_rfl) args w
theorem fok46 (args : Array Value) (w : World) : (callFunc 46 args).run Try.prog w = .ok (.enter 46 args) w := callFunc_in Try.func46 (by kernel_rfl) (by kernel_rfl) args w
theorem fok47 (args : Array Value) (w : World) : (callFunc 47 args).run Try.prog w = .ok (.enter 47 args) w := callFunc_in Try.func47 (by kernel_rfl) (by kernel_rfl) args w
theorem fok48 (args : Array Value) (w : World) : (callFunc 48 args).run Try.prog w = .ok (.enter 48 args) w := callFunc_in Try.func48 (by kernel_rfl) (by kernel_rfl) args w
theorem fok49 (args : Array Value) (w : World) : (callFunc 49 args).run Try.prog w = .ok (.enter 49 args) w := callFunc_in Try.func49 (by kernel_rfl) (by kernel_rfl) args w
theorem fok50 (args : Array Value) (w : World) : (callFunc 50 args).run Try.prog w = .ok (.enter 50 args) w := callFunc_in Try.func50 (by kernel_rfl) (by kernel_rfl) args w
theorem fok51 (args : Array Value) (w : World) : (callFunc 51 args).run Try.prog w = .ok (.enter 51 args) w := callFunc_in Try.func51 (by kernel_rfl) (by kernel_rfl) args w
theorem fok52 (args : Array Value) (w : World) : (callFunc 52 args).run Try.prog w = .ok (.enter 52 args) w := callFunc_in Try.func52 (by kernel_rfl) (by kernel_rfl) args w
theorem fok53 (args : Array Value) (w : World) : (callFunc 53 args).run Try.prog w = .ok (.enter 53 args) w := callFunc_in Try.func53 (by kernel_rfl) (by kernel_rfl) args w
theorem fok54 (args : Array Value) (w : World) : (callFunc 54 args).run Try.prog w = .ok (.enter 54 args) w := callFunc_in Try.func54 (by kernel_rfl) (by kernel_rfl) args w
theorem fok55 (args : Array Value) (w : World) : (callFunc 55 args).run Try.prog w = .ok (.enter 55 args) w := callFunc_in Try.func55 (by kernel_rfl) (by kernel_rfl) args w
theorem fok56 (args : Array Value) (w : World) : (callFunc 56 args).run Try.prog w = .ok (.enter 56 args) w := callFunc_in Try.func56 (by kernel_rfl) (by kernel_rfl) args w
theorem fok57 (args : Array Value) (w : World) : (callFunc 57 args).run Try.prog w = .ok (.enter 57 args) w := callFunc_in Try.func57 (by kernel_rfl) (by kernel_rfl) args w
theorem fok58 (args : Array Value) (w : World) : (callFunc 58 args).run Try.prog w = .ok (.enter 58 args) w := callFunc_in Try.func58 (by kernel_rfl) (by kernel_rfl) args w
theorem fok59 (args : Array Value) (w : World) : (callFunc 59 args).run Try.prog w = .ok (.enter 59 args) w := callFunc_in Try.func59 (by kernel_rfl) (by kernel_rfl) args w
theorem fok60 (args : Array Value) (w : World) : (callFunc 60 args).run Try.prog w = .ok (.enter 60 args) w := callFunc_in Try.func60 (by kernel_rfl) (by kernel_rfl) args w
theorem fok61 (args : Array Value) (w : World) : (callFunc 61 args).run Try.prog w = .ok (.enter 61 args) w := callFunc_in Try.func61 (by kernel_rfl) (by kernel_rfl) args w
theorem fok62 (args : Array Value) (w : World) : (callFunc 62 args).run Try.prog w = .ok (.enter 62 args) w := callFunc_in Try.func62 (by kernel_rfl) (by kernel_rfl) args w
theorem fok63 (args : Array Value) (w : World) : (callFunc 63 args).run Try.prog w = .ok (.enter 63 args) w := callFunc_in Try.func63 (by kernel_rfl) (by kernel_rfl) args w
theorem fok64 (args : Array Value) (w : World) : (callFunc 64 args).run Try.prog w = .ok (.enter 64 args) w := callFunc_in Try.func64 (by kernel_rfl) (by kernel_rfl) args w
theorem fok65 (args : Array Value) (w : World) : (callFunc 65 args).run Try.prog w = .ok (.enter 65 args) w := callFunc_in Try.func65 (by kernel_rfl) (by kernel_rfl) args w
theorem fok66 (args : Array Value) (w : World) : (callFunc 66 args).run Try.prog w = .ok (.enter 66 args) w := callFunc_in Try.func66 (by kernel_rfl) (by kernel_rfl) args w
theorem fok67 (args : Array Value) (w : World) : (callFunc 67 args).run Try.prog w = .ok (.enter 67 args) w := callFunc_in Try.func67 (by kernel_rfl) (by kernel_rfl) args w
theorem fok68 (args : Array Value) (w : World) : (callFunc 68 args).run Try.prog w = .ok (.enter 68 args) w := callFunc_in Try.func68 (by kernel_rfl) (by kernel_rfl) args w
theorem fok69 (args : Array Value) (w : World) : (callFunc 69 args).run Try.prog w = .ok (.enter 69 args) w := callFunc_in Try.func69 (by kernel_rfl) (by kernel_rfl) args w
theorem fok70 (args : Array Value) (w : World) : (callFunc 70 args).run Try.prog w = .ok (.enter 70 args) w := callFunc_in Try.func70 (by kernel_rfl) (by kernel_rfl) args w
theorem fok71 (args : Array Value) (w : World) : (callFunc 71 args).run Try.prog w = .ok (.enter 71 args) w := callFunc_in Try.func71 (by kernel_rfl) (by kernel_rfl) args w
theorem fok72 (args : Array Value) (w : World) : (callFunc 72 args).run Try.prog w = .ok (.enter 72 args) w := callFunc_in Try.func72 (by kernel_rfl) (by kernel_rfl) args w
theorem fok73 (args : Array Value) (w : World) : (callFunc 73 args).run Try.prog w = .ok (.enter 73 args) w := callFunc_in Try.func73 (by kernel_rfl) (by kernel_rfl) args w
theorem fok74 (args : Array Value) (w : World) : (callFunc 74 args).run Try.prog w = .ok (.enter 74 args) w := callFunc_in Try.func74 (by kernel_rfl) (by kernel_rfl) args w
theorem fok75 (args : Array Value) (w : World) : (callFunc 75 args).run Try.prog w = .ok (.enter 75 args) w := callFunc_in Try.func75 (by kernel_rfl) (by kernel_rfl) args w
theorem fok76 (args : Array Value) (w : World) : (callFunc 76 args).run Try.prog w = .ok (.enter 76 args) w := callFunc_in Try.func76 (by kernel_rfl) (by kernel_rfl) args w
theorem fok77 (args : Array Value) (w : World) : (callFunc 77 args).run Try.prog w = .ok (.enter 77 args) w := callFunc_in Try.func77 (by kernel_rfl) (by kernel_rfl) args w
theorem fok78 (args : Array Value) (w : World) : (callFunc 78 args).run Try.prog w = .ok (.enter 78 args) w := callFunc_in Try.func78 (by kernel_rfl) (by kernel_rfl) args w
theorem fok79 (args : Array Value) (w : World) : (callFunc 79 args).run Try.prog w = .ok (.enter 79 args) w := callFunc_in Try.func79 (by kernel_rfl) (by kernel_rfl) args w
theorem fok80 (args : Array Value) (w : World) : (callFunc 80 args).run Try.prog w = .ok (.enter 80 args) w := callFunc_in Try.func80 (by kernel_rfl) (by kernel_rfl) args w
theorem fok81 (args : Array Value) (w : World) : (callFunc 81 args).run Try.prog w = .ok (.enter 81 args) w := callFunc_in Try.func81 (by kernel_rfl) (by kernel_rfl) args w
theorem fok82 (args : Array Value) (w : World) : (callFunc 82 args).run Try.prog w = .ok (.enter 82 args) w := callFunc_in Try.func82 (by kernel_rfl) (by kernel_rfl) args w
theorem fok83 (args : Array Value) (w : World) : (callFunc 83 args).run Try.prog w = .ok (.enter 83 args) w := callFunc_in Try.func83 (by kernel_rfl) (by kernel_rfl) args w
theorem fok84 (args : Array Value) (w : World) : (callFunc 84 args).run Try.prog w = .ok (.enter 84 args) w := callFunc_in Try.func84 (by kernel_rfl) (by kernel_rfl) args w
theorem fok85 (args : Array Value) (w : World) : (callFunc 85 args).run Try.prog w = .ok (.enter 85 args) w := callFunc_in Try.func85 (by kernel_rfl) (by kernel_rfl) args w
theorem fok86 (args : Array Value) (w : World) : (callFunc 86 args).run Try.prog w = .ok (.enter 86 args) w := callFunc_in Try.func86 (by kernel_rfl) (by kernel_rfl) args w
theorem fok87 (args : Array Value) (w : World) : (callFunc 87 args).run Try.prog w = .ok (.enter 87 args) w := callFunc_in Try.func87 (by kernel_rfl) (by kernel_rfl) args w
theorem fok88 (args : Array Value) (w : World) : (callFunc 88 args).run Try.prog w = .ok (.enter 88 args) w := callFunc_in Try.func88 (by kernel_rfl) (by kernel_rfl) args w
theorem fok89 (args : Array Value) (w : World) : (callFunc 89 args).run Try.prog w = .ok (.enter 89 args) w := callFunc_in Try.func89 (by kernel_rfl) (by kernel_rfl) args w
theorem fok90 (args : Array Value) (w : World) : (callFunc 90 args).run Try.prog w = .ok (.enter 90 args) w := callFunc_in Try.func90 (by kernel_rfl) (by kernel_rfl) args w
theorem fok91 (args : Array Value) (w : World) : (callFunc 91 args).run Try.prog w = .ok (.enter 91 args) w := callFunc_in Try.func91 (by kernel_rfl) (by kernel_rfl) args w
theorem fok92 (args : Array Value) (w : World) : (callFunc 92 args).run Try.prog w = .ok (.enter 92 args) w := callFunc_in Try.func92 (by kernel_rfl) (by kernel_rfl) args w
theorem fok93 (args : Array Value) (w : World) : (callFunc 93 args).run Try.prog w = .ok (.enter 93 args) w := callFunc_in Try.func93 (by kernel_rfl) (by kernel_rfl) args w
theorem fok94 (args : Array Value) (w : World) : (callFunc 94 args).run Try.prog w = .ok (.enter 94 args) w := callFunc_in Try.func94 (by kernel_rfl) (by kernel_rfl) args w
theorem fok95 (args : Array Value) (w : World) : (callFunc 95 args).run Try.prog w = .ok (.enter 95 args) w := callFunc_in Try.func95 (by kernel_rfl) (by kernel_rfl) args w
theorem fok96 (args : Array Value) (w : World) : (callFunc 96 args).run Try.prog w = .ok (.enter 96 args) w := callFunc_in Try.func96 (by kernel_rfl) (by kernel_rfl) args w
theorem fok97 (args : Array Value) (w : World) : (callFunc 97 args).run Try.prog w = .ok (.enter 97 args) w := callFunc_in Try.func97 (by kernel_rfl) (by kernel_rfl) args w
theorem fok98 (args : Array Value) (w : World) : (callFunc 98 args).run Try.prog w = .ok (.enter 98 args) w := callFunc_in Try.func98 (by kernel_rfl) (by kernel_rfl) args w
theorem fok99 (args : Array Value) (w : World) : (callFunc 99 args).run Try.prog w = .ok (.enter 99 args) w := callFunc_in Try.func99 (by kernel_rfl) (by kernel_rfl) args w
theorem fok100 (args : Array Value) (w : World) : (callFunc 100 args).run Try.prog w = .ok (.enter 100 args) w := callFunc_in Try.func100 (by kernel_rfl) (by kernel_rfl) args w
theorem fok101 (args : Array Value) (w : World) : (callFunc 101 args).run Try.prog w = .ok (.enter 101 args) w := callFunc_in Try.func101 (by kernel_rfl) (by kernel_rfl) args w
theorem fok102 (args : Array Value) (w : World) : (callFunc 102 args).run Try.prog w = .ok (.enter 102 args) w := callFunc_in Try.func102 (by kernel_rfl) (by kernel_rfl) args w
theorem fok103 (args : Array Value) (w : World) : (callFunc 103 args).run Try.prog w = .ok (.enter 103 args) w := callFunc_in Try.func103 (by kernel_rfl) (by kernel_rfl) args w
theorem fok104 (args : Array Value) (w : World) : (callFunc 104 args).run Try.prog w = .ok (.enter 104 args) w := callFunc_in Try.func104 (by kernel_rfl) (by kernel_rfl) args w
theorem fok105 (args : Array Value) (w : World) : (callFunc 105 args).run Try.prog w = .ok (.enter 105 args) w := callFunc_in Try.func105 (by kernel_rfl) (by kernel_rfl) args w
theorem fok106 (args : Array Value) (w : World) : (callFunc 106 args).run Try.prog w = .ok (.enter 106 args) w := callFunc_in Try.func106 (by kernel_rfl) (by kernel_rfl) args w
theorem fok107 (args : Array Value) (w : World) : (callFunc 107 args).run Try.prog w = .ok (.enter 107 args) w := callFunc_in Try.func107 (by kernel_rfl) (by kernel_rfl) args w
theorem fok108 (args : Array Value) (w : World) : (callFunc 108 args).run Try.prog w = .ok (.enter 108 args) w := callFunc_in Try.func108 (by kernel_rfl) (by kernel_rfl) args w
theorem fok109 (args : Array Value) (w : World) : (callFunc 109 args).run Try.prog w = .ok (.enter 109 args) w := callFunc_in Try.func109 (by kernel_rfl) (by kernel_rfl) args w
theorem fok110 (args : Array Value) (w : World) : (callFunc 110 args).run Try.prog w = .ok (.enter 110 args) w := callFunc_in Try.func110 (by kernel_rfl) (by kernel_rfl) args w
theorem fok111 (args : Array Value) (w : World) : (callFunc 111 args).run Try.prog w = .ok (.enter 111 args) w := callFunc_in Try.func111 (by kernel_rfl) (by kernel_rfl) args w
theorem fok112 (args : Array Value) (w : World) : (callFunc 112 args).run Try.prog w = .ok (.enter 112 args) w := callFunc_in Try.func112 (by kernel_rfl) (by kernel_rfl) args w
theorem fok113 (args : Array Value) (w : World) : (callFunc 113 args).run Try.prog w = .ok (.enter 113 args) w := callFunc_in Try.func113 (by kernel_rfl) (by kernel_rfl) args w
theorem fok114 (args : Array Value) (w : World) : (callFunc 114 args).run Try.prog w = .ok (.enter 114 args) w := callFunc_in Try.func114 (by kernel_rfl) (by kernel_rfl) args w
theorem fok115 (args : Array Value) (w : World) : (callFunc 115 args).run Try.prog w = .ok (.enter 115 args) w := callFunc_in Try.func115 (by kernel_rfl) (by kernel_rfl) args w
theorem fok116 (args : Array Value) (w : World) : (callFunc 116 args).run Try.prog w = .ok (.enter 116 args) w := callFunc_in Try.func116 (by kernel_rfl) (by kernel_rfl) args w
theorem fok117 (args : Array Value) (w : World) : (callFunc 117 args).run Try.prog w = .ok (.enter 117 args) w := callFunc_in Try.func117 (by kernel_rfl) (by kernel_rfl) args w
theorem fok118 (args : Array Value) (w : World) : (callFunc 118 args).run Try.prog w = .ok (.enter 118 args) w := callFunc_in Try.func118 (by kernel_rfl) (by kernel_rfl) args w
theorem fok119 (args : Array Value) (w : World) : (callFunc 119 args).run Try.prog w = .ok (.enter 119 args) w := callFunc_in Try.func119 (by kernel_rfl) (by kernel_rfl) args w
theorem fok120 (args : Array Value) (w : World) : (callFunc 120 args).run Try.prog w = .ok (.enter 120 args) w := callFunc_in Try.func120 (by kernel_rfl) (by kernel_rfl) args w
theorem fok121 (args : Array Value) (w : World) : (callFunc 121 args).run Try.prog w = .ok (.enter 121 args) w := callFunc_in Try.func121 (by kernel_rfl) (by kernel_rfl) args w
theorem fok122 (args : Array Value) (w : World) : (callFunc 122 args).run Try.prog w = .ok (.enter 122 args) w := callFunc_in Try.func122 (by kernel_rfl) (by kernel_rfl) args w
theorem fok123 (args : Array Value) (w : World) : (callFunc 123 args).run Try.prog w = .ok (.enter 123 args) w := callFunc_in Try.func123 (by kernel_rfl) (by kernel_rfl) args w
theorem fok124 (args : Array Value) (w : World) : (callFunc 124 args).run Try.prog w = .ok (.enter 124 args) w := callFunc_in Try.func124 (by kernel_rfl) (by kernel_rfl) args w
theorem fok125 (args : Array Value) (w : World) : (callFunc 125 args).run Try.prog w = .ok (.enter 125 args) w := callFunc_in Try.func125 (by kernel_rfl) (by kernel_rfl) args w
theorem fok126 (args : Array Value) (w : World) : (callFunc 126 args).run Try.prog w = .ok (.enter 126 args) w := callFunc_in Try.func126 (by kernel_rfl) (by kernel_rfl) args w
theorem fok127 (args : Array Value) (w : World) : (callFunc 127 args).run Try.prog w = .ok (.enter 127 args) w := callFunc_in Try.func127 (by kernel_rfl) (by kernel_rfl) args w
theorem fok128 (args : Array Value) (w : World) : (callFunc 128 args).run Try.prog w = .ok (.enter 128 args) w := callFunc_in Try.func128 (by kernel_rfl) (by kernel_rfl) args w
theorem fok129 (args : Array Value) (w : World) : (callFunc 129 args).run Try.prog w = .ok (.enter 129 args) w := callFunc_in Try.func129 (by kernel_rfl) (by kernel_rfl) args w
theorem fok130 (args : Array Value) (w : World) : (callFunc 130 args).run Try.prog w = .ok (.enter 130 args) w := callFunc_in Try.func130 (by kernel_rfl) (by kernel_rfl) args w
theorem fok131 (args : Array Value) (w : World) : (callFunc 131 args).run Try.prog w = .ok (.enter 131 args) w := callFunc_in Try.func131 (by kernel_rfl) (by kernel_rfl) args w
theorem fok132 (args : Array Value) (w : World) : (callFunc 132 args).run Try.prog w = .ok (.enter 132 args) w := callFunc_in Try.func132 (by kernel_rfl) (by kernel_rfl) args w
theorem fok133 (args : Array Value) (w : World) : (callFunc 133 args).run Try.prog w = .ok (.enter 133 args) w := callFunc_in Try.func133 (by kernel_rfl) (by kernel_rfl) args w
theorem fok134 (args : Array Value) (w : World) : (callFunc 134 args).run Try.prog w = .ok (.enter 134 args) w := callFunc_in Try.func134 (by kernel_rfl) (by kernel_rfl) args w
theorem fok135 (args : Array Value) (w : World) : (callFunc 135 args).run Try.prog w = .ok (.enter 135 args) w := callFunc_in Try.func135 (by kernel_rfl) (by kernel_rfl) args w
theorem fok136 (args : Array Value) (w : World) : (callFunc 136 args).run Try.prog w = .ok (.enter 136 args) w := callFunc_in Try.func136 (by kernel_rfl) (by kernel_rfl) args w
theorem fok137 (args : Array Value) (w : World) : (callFunc 137 args).run Try.prog w = .ok (.enter 137 args) w := callFunc_in Try.func137 (by kernel_rfl) (by kernel_rfl) args w
theorem fok138 (args : Array Value) (w : World) : (callFunc 138 args).run Try.prog w = .ok (.enter 138 args) w := callFunc_in Try.func138 (by kernel_rfl) (by kernel_rfl) args w
theorem fok139 (args : Array Value) (w : World) : (callFunc 139 args).run Try.prog w = .ok (.enter 139 args) w := callFunc_in Try.func139 (by kernel_rfl) (by kernel_rfl) args w
theorem fok140 (args : Array Value) (w : World) : (callFunc 140 args).run Try.prog w = .ok (.enter 140 args) w := callFunc_in Try.func140 (by kernel_rfl) (by kernel_rfl) args w
theorem fok141 (args : Array Value) (w : World) : (callFunc 141 args).run Try.prog w = .ok (.enter 141 args) w := callFunc_in Try.func141 (by kernel_rfl) (by kernel_rfl) args w
theorem fok142 (args : Array Value) (w : World) : (callFunc 142 args).run Try.prog w = .ok (.enter 142 args) w := callFunc_in Try.func142 (by kernel_rfl) (by kernel_rfl) args w
theorem fok143 (args : Array Value) (w : World) : (callFunc 143 args).run Try.prog w = .ok (.enter 143 args) w := callFunc_in Try.func143 (by kernel_rfl) (by kernel_rfl) args w
theorem fok144 (args : Array Value) (w : World) : (callFunc 144 args).run Try.prog w = .ok (.enter 144 args) w := callFunc_in Try.func144 (by kernel_rfl) (by kernel_rfl) args w
theorem fok145 (args : Array Value) (w : World) : (callFunc 145 args).run Try.prog w = .ok (.enter 145 args) w := callFunc_in Try.func145 (by kernel_rfl) (by kernel_rfl) args w
theorem fok146 (args : Array Value) (w : World) : (callFunc 146 args).run Try.prog w = .ok (.enter 146 args) w := callFunc_in Try.func146 (by kernel_rfl) (by kernel_rfl) args w
theorem fok147 (args : Array Value) (w : World) : (callFunc 147 args).run Try.prog w = .ok (.enter 147 args) w := callFunc_in Try.func147 (by kernel_rfl) (by kernel_rfl) args w
theorem fok148 (args : Array Value) (w : World) : (callFunc 148 args).run Try.prog w = .ok (.enter 148 args) w := callFunc_in Try.func148 (by kernel_rfl) (by kernel_rfl) args w
theorem fok149 (args : Array Value) (w : World) : (callFunc 149 args).run Try.prog w = .ok (.enter 149 args) w := callFunc_in Try.func149 (by kernel_rfl) (by kernel_rfl) args w
theorem fok150 (args : Array Value) (w : World) : (callFunc 150 args).run Try.prog w = .ok (.enter 150 args) w := callFunc_in Try.func150 (by kernel_rfl) (by kernel_rfl) args w
theorem fok151 (args : Array Value) (w : World) : (callFunc 151 args).run Try.prog w = .ok (.enter 151 args) w := callFunc_in Try.func151 (by kernel_rfl) (by kernel_rfl) args w
theorem fok152 (args : Array Value) (w : World) : (callFunc 152 args).run Try.prog w = .ok (.enter 152 args) w := callFunc_in Try.func152 (by kernel_rfl) (by kernel_rfl) args w
theorem fok153 (args : Array Value) (w : World) : (callFunc 153 args).run Try.prog w = .ok (.enter 153 args) w := callFunc_in Try.func153 (by kernel_rfl) (by kernel_rfl) args w
theorem fok154 (args : Array Value) (w : World) : (callFunc 154 args).run Try.prog w = .ok (.enter 154 args) w := callFunc_in Try.func154 (by kernel_rfl) (by kernel_rfl) args w
theorem fok155 (args : Array Value) (w : World) : (callFunc 155 args).run Try.prog w = .ok (.enter 155 args) w := callFunc_in Try.func155 (by kernel_rfl) (by kernel_rfl) args w
theorem fok156 (args : Array Value) (w : World) : (callFunc 156 args).run Try.prog w = .ok (.enter 156 args) w := callFunc_in Try.func156 (by kernel_rfl) (by kernel_rfl) args w
theorem fok157 (args : Array Value) (w : World) : (callFunc 157 args).run Try.prog w = .ok (.enter 157 args) w := callFunc_in Try.func157 (by kernel_rfl) (by kernel_rfl) args w
theorem fok158 (args : Array Value) (w : World) : (callFunc 158 args).run Try.prog w = .ok (.enter 158 args) w := callFunc_in Try.func158 (by kernel_rfl) (by kernel_rfl) args w
theorem fok159 (args : Array Value) (w : World) : (callFunc 159 args).run Try.prog w = .ok (.enter 159 args) w := callFunc_in Try.func159 (by kernel_rfl) (by kernel_rfl) args w
theorem fok160 (args : Array Value) (w : World) : (callFunc 160 args).run Try.prog w = .ok (.enter 160 args) w := callFunc_in Try.func160 (by kernel_rfl) (by kernel_rfl) args w
theorem fok161 (args : Array Value) (w : World) : (callFunc 161 args).run Try.prog w = .ok (.enter 161 args) w := callFunc_in Try.func161 (by kernel_rfl) (by kernel_rfl) args w
theorem fok162 (args : Array Value) (w : World) : (callFunc 162 args).run Try.prog w = .ok (.enter 162 args) w := callFunc_in Try.func162 (by kernel_rfl) (by kernel_rfl) args w
theorem fok163 (args : Array Value) (w : World) : (callFunc 163 args).run Try.prog w = .ok (.enter 163 args) w := callFunc_in Try.func163 (by kernel_rfl) (by kernel_rfl) args w
theorem fok164 (args : Array Value) (w : World) : (callFunc 164 args).run Try.prog w = .ok (.enter 164 args) w := callFunc_in Try.func164 (by kernel_rfl) (by kernel_rfl) args w
theorem fok165 (args : Array Value) (w : World) : (callFunc 165 args).run Try.prog w = .ok (.enter 165 args) w := callFunc_in Try.func165 (by kernel_rfl) (by kernel_rfl) args w
theorem fok166 (args : Array Value) (w : World) : (callFunc 166 args).run Try.prog w = .ok (.enter 166 args) w := callFunc_in Try.func166 (by kernel_rfl) (by kernel_rfl) args w
theorem fok167 (args : Array Value) (w : World) : (callFunc 167 args).run Try.prog w = .ok (.enter 167 args) w := callFunc_in Try.func167 (by kernel_rfl) (by kernel_rfl) args w
theorem fok168 (args : Array Value) (w : World) : (callFunc 168 args).run Try.prog w = .ok (.enter 168 args) w := callFunc_in Try.func168 (by kernel_rfl) (by kernel_rfl) args w
theorem fok169 (args : Array Value) (w : World) : (callFunc 169 args).run Try.prog w = .ok (.enter 169 args) w := callFunc_in Try.func169 (by kernel_rfl) (by kernel_rfl) args w
theorem fok170 (args : Array Value) (w : World) : (callFunc 170 args).run Try.prog w = .ok (.enter 170 args) w := callFunc_in Try.func170 (by kernel_rfl) (by kernel_rfl) args w
theorem fok171 (args : Array Value) (w : World) : (callFunc 171 args).run Try.prog w = .ok (.enter 171 args) w := callFunc_in Try.func171 (by kernel_rfl) (by kernel_rfl) args w
theorem fok172 (args : Array Value) (w : World) : (callFunc 172 args).run Try.prog w = .ok (.enter 172 args) w := callFunc_in Try.func172 (by kernel_rfl) (by kernel_rfl) args w
theorem fok173 (args : Array Value) (w : World) : (callFunc 173 args).run Try.prog w = .ok (.enter 173 args) w := callFunc_in Try.func173 (by kernel_rfl) (by kernel_rfl) args w
theorem fok174 (args : Array Value) (w : World) : (callFunc 174 args).run Try.prog w = .ok (.enter 174 args) w := callFunc_in Try.func174 (by kernel_rfl) (by kernel_rfl) args w
theorem fok175 (args : Array Value) (w : World) : (callFunc 175 args).run Try.prog w = .ok (.enter 175 args) w := callFunc_in Try.func175 (by kernel_rfl) (by kernel_rfl) args w
theorem fok176 (args : Array Value) (w : World) : (callFunc 176 args).run Try.prog w = .ok (.enter 176 args) w := callFunc_in Try.func176 (by kernel_rfl) (by kernel_rfl) args w
theorem fok177 (args : Array Value) (w : World) : (callFunc 177 args).run Try.prog w = .ok (.enter 177 args) w := callFunc_in Try.func177 (by kernel_rfl) (by kernel_rfl) args w
theorem fok178 (args : Array Value) (w : World) : (callFunc 178 args).run Try.prog w = .ok (.enter 178 args) w := callFunc_in Try.func178 (by kernel_rfl) (by kernel_rfl) args w
theorem fok179 (args : Array Value) (w : World) : (callFunc 179 args).run Try.prog w = .ok (.enter 179 args) w := callFunc_in Try.func179 (by kernel_rfl) (by kernel_rfl) args w
theorem fok180 (args : Array Value) (w : World) : (callFunc 180 args).run Try.prog w = .ok (.enter 180 args) w := callFunc_in Try.func180 (by kernel_rfl) (by kernel_rfl) args w
theorem fok181 (args : Array Value) (w : World) : (callFunc 181 args).run Try.prog w = .ok (.enter 181 args) w := callFunc_in Try.func181 (by kernel_rfl) (by kernel_rfl) args w
def fns : List Nat := [3, 4, 5, 6, 7, 8, 9, 10, 11, 12, 13, 14, 15, 16, 17, 18, 19, 20, 21, 22, 23, 24, 25, 26, 27, 28, 29, 30, 31, 32, 33, 34, 35, 36, 37, 38, 39, 40, 41, 42, 43, 44, 45, 46, 47, 48, 49, 50, 51, 52, 53, 54, 55, 56, 57, 58, 59, 60, 61, 62, 63, 64, 65, 66, 67, 68, 69, 70, 71, 72, 73, 74, 75, 76, 77, 78, 79, 80, 81, 82, 83, 84, 85, 86, 87, 88, 89, 90, 91, 92, 93, 94, 95, 96, 97, 98, 99, 100, 101, 102, 103, 104, 105, 106, 107, 108, 109, 110, 111, 112, 113, 114, 115, 116, 117, 118, 119, 120, 121, 122, 123, 124, 125, 126, 127, 128, 129, 130, 131, 132, 133, 134, 135, 136, 137, 138, 139, 140, 141, 142, 143, 144, 145, 146, 147, 148, 149, 150, 151, 152, 153, 154, 155, 156, 157, 158, 159, 160, 161, 162, 163, 164, 165, 166, 167, 168, 169, 170, 171, 172, 173, 174, 175, 176, 177, 178, 179, 180, 181]
theorem fns_ok : AllF Try.prog fns := ⟨fok3, fok4, fok5, fok6, fok7, fok8, fok9, fok10, fok11, fok12, fok13, fok14, fok15, fok16, fok17, fok18, fok19, fok20, fok21, fok22, fok23, fok24, fok25, fok26, fok27, fok28, fok29, fok30, fok31, fok32, fok33, fok34, fok35, fok36, fok37, fok38, fok39, fok40, fok41, fok42, fok43, fok44, fok45, fok46, fok47, fok48, fok49, fok50, fok51, fok52, fok53, fok54, fok55, fok56, fok57, fok58, fok59, fok60, fok61, fok62, fok63, fok64, fok65, fok66, fok67, fok68, fok69, fok70, fok71, fok72, fok73, fok74, fok75, fok76, fok77, fok78, fok79, fok80, fok81, fok82, fok83, fok84, fok85, fok86, fok87, fok88, fok89, fok90, fok91, fok92, fok93, fok94, fok95, fok96, fok97, fok98, fok99, fok100, fok101, fok102, fok103, fok104, fok105, fok106, fok107, fok108, fok109, fok110, fok111, fok112, fok113, fok114, fok115, fok116, fok117, fok118, fok119, fok120, fok121, fok122, fok123, fok124, fok125, fok126, fok127, fok128, fok129, fok130, fok131, fok132, fok133, fok134, fok135, fok136, fok137, fok138, fok139, fok140, fok141, fok142, fok143, fok144, fok145, fok146, fok147, fok148, fok149, fok150, fok151, fok152, fok153, fok154, fok155, fok156, fok157, fok158, fok159, fok160, fok161, fok162, fok163, fok164, fok165, fok166, fok167, fok168, fok169, fok170, fok171, fok172, fok173, fok174, fok175, fok176, fok177, fok178, fok179, fok180, fok181, trivial⟩
def env : Env Try.prog := Env.of tys tys_ok fns fns_ok
theorem mixed : Try.prog.follows .mixedOrders = true := by kernel_rfl
noncomputable def body15 : Code := Try.f15.body.getD .skip
theorem has15 : Try.f15.body = some body15 := by kernel_rfl
noncomputable def body17 : Code := Try.f17.body.getD .skip
theorem has17 : Try.f17.body = some body17 := by kernel_rfl
noncomputable def body21 : Code := Try.f21.body.getD .skip
theorem has21 : Try.f21.body = some body21 := by kernel_rfl
noncomputable def body22 : Code := Try.f22.body.getD .skip
theorem has22 : Try.f22.body = some body22 := by kernel_rfl
noncomputable def body24 : Code := Try.f24.body.getD .skip
theorem has24 : Try.f24.body = some body24 := by kernel_rfl
noncomputable def body37 : Code := Try.f37.body.getD .skip
theorem has37 : Try.f37.body = some body37 := by kernel_rfl
noncomputable def body41 : Code := Try.f41.body.getD .skip
theorem has41 : Try.f41.body = some body41 := by kernel_rfl
noncomputable def body46 : Code := Try.f46.body.getD .skip
theorem has46 : Try.f46.body = some body46 := by kernel_rfl
noncomputable def body50 : Code := Try.f50.body.getD .skip
theorem has50 : Try.f50.body = some body50 := by kernel_rfl
noncomputable def body51 : Code := Try.f51.body.getD .skip
theorem has51 : Try.f51.body = some body51 := by kernel_rfl
noncomputable def body56 : Code := Try.f56.body.getD .skip
theorem has56 : Try.f56.body = some body56 := by kernel_rfl
noncomputable def body60 : Code := Try.f60.body.getD .skip
theorem has60 : Try.f60.body = some body60 := by kernel_rfl
noncomputable def body61 : Code := Try.f61.body.getD .skip
theorem has61 : Try.f61.body = some body61 := by kernel_rfl
noncomputable def body62 : Code := Try.f62.body.getD .skip
theorem has62 : Try.f62.body = some body62 := by kernel_rfl
noncomputable def body69 : Code := Try.f69.body.getD .skip
theorem has69 : Try.f69.body = some body69 := by kernel_rfl
noncomputable def body70 : Code := Try.f70.body.getD .skip
theorem has70 : Try.f70.body = some body70 := by kernel_rfl
noncomputable def body71 : Code := Try.f71.body.getD .skip
theorem has71 : Try.f71.body = some body71 := by kernel_rfl
noncomputable def body72 : Code := Try.f72.body.getD .skip
theorem has72 : Try.f72.body = some body72 := by kernel_rfl
noncomputable def body73 : Code := Try.f73.body.getD .skip
theorem has73 : Try.f73.body = some body73 := by kernel_rfl
noncomputable def body74 : Code := Try.f74.body.getD .skip
theorem has74 : Try.f74.body = some body74 := by kernel_rfl
noncomputable def body75 : Code := Try.f75.body.getD .skip
theorem has75 : Try.f75.body = some body75 := by kernel_rfl
noncomputable def body79 : Code := Try.f79.body.getD .skip
theorem has79 : Try.f79.body = some body79 := by kernel_rfl
noncomputable def body83 : Code := Try.f83.body.getD .skip
theorem has83 : Try.f83.body = some body83 := by kernel_rfl
noncomputable def body91 : Code := Try.f91.body.getD .skip
theorem has91 : Try.f91.body = some body91 := by kernel_rfl
noncomputable def body92 : Code := Try.f92.body.getD .skip
theorem has92 : Try.f92.body = some body92 := by kernel_rfl
noncomputable def body93 : Code := Try.f93.body.getD .skip
theorem has93 : Try.f93.body = some body93 := by kernel_rfl
noncomputable def body94 : Code := Try.f94.body.getD .skip
theorem has94 : Try.f94.body = some body94 := by kernel_rfl
noncomputable def body95 : Code := Try.f95.body.getD .skip
theorem has95 : Try.f95.body = some body95 := by kernel_rfl
noncomputable def body96 : Code := Try.f96.body.getD .skip
theorem has96 : Try.f96.body = some body96 := by kernel_rfl
noncomputable def body101 : Code := Try.f101.body.getD .skip
theorem has101 : Try.f101.body = some body101 := by kernel_rfl
noncomputable def body102 : Code := Try.f102.body.getD .skip
theorem has102 : Try.f102.body = some body102 := by kernel_rfl
noncomputable def body106 : Code := Try.f106.body.getD .skip
theorem has106 : Try.f106.body = some body106 := by kernel_rfl
noncomputable def body107 : Code := Try.f107.body.getD .skip
theorem has107 : Try.f107.body = some body107 := by kernel_rfl
noncomputable def body108 : Code := Try.f108.body.getD .skip
theorem has108 : Try.f108.body = some body108 := by kernel_rfl
noncomputable def body109 : Code := Try.f109.body.getD .skip
theorem has109 : Try.f109.body = some body109 := by kernel_rfl
noncomputable def body110 : Code := Try.f110.body.getD .skip
theorem has110 : Try.f110.body = some body110 := by kernel_rfl
noncomputable def body112 : Code := Try.f112.body.getD .skip
theorem has112 : Try.f112.body = some body112 := by kernel_rfl
noncomputable def body113 : Code := Try.f113.body.getD .skip
theorem has113 : Try.f113.body = some body113 := by kernel_rfl
noncomputable def body114 : Code := Try.f114.body.getD .skip
theorem has114 : Try.f114.body = some body114 := by kernel_rfl
noncomputable def body115 : Code := Try.f115.body.getD .skip
theorem has115 : Try.f115.body = some body115 := by kernel_rfl
noncomputable def body133 : Code := Try.f133.body.getD .skip
theorem has133 : Try.f133.body = some body133 := by kernel_rfl
noncomputable def body134 : Code := Try.f134.body.getD .skip
theorem has134 : Try.f134.body = some body134 := by kernel_rfl
noncomputable def body135 : Code := Try.f135.body.getD .skip
theorem has135 : Try.f135.body = some body135 := by kernel_rfl
noncomputable def body136 : Code := Try.f136.body.getD .skip
theorem has136 : Try.f136.body = some body136 := by kernel_rfl
noncomputable def body137 : Code := Try.f137.body.getD .skip
theorem has137 : Try.f137.body = some body137 := by kernel_rfl
noncomputable def body138 : Code := Try.f138.body.getD .skip
theorem has138 : Try.f138.body = some body138 := by kernel_rfl
noncomputable def body139 : Code := Try.f139.body.getD .skip
theorem has139 : Try.f139.body = some body139 := by kernel_rfl
noncomputable def body140 : Code := Try.f140.body.getD .skip
theorem has140 : Try.f140.body = some body140 := by kernel_rfl
noncomputable def body141 : Code := Try.f141.body.getD .skip
theorem has141 : Try.f141.body = some body141 := by kernel_rfl
noncomputable def body143 : Code := Try.f143.body.getD .skip
theorem has143 : Try.f143.body = some body143 := by kernel_rfl
noncomputable def body144 : Code := Try.f144.body.getD .skip
theorem has144 : Try.f144.body = some body144 := by kernel_rfl
noncomputable def body145 : Code := Try.f145.body.getD .skip
theorem has145 : Try.f145.body = some body145 := by kernel_rfl
noncomputable def body146 : Code := Try.f146.body.getD .skip
theorem has146 : Try.f146.body = some body146 := by kernel_rfl
noncomputable def body147 : Code := Try.f147.body.getD .skip
theorem has147 : Try.f147.body = some body147 := by kernel_rfl
noncomputable def body148 : Code := Try.f148.body.getD .skip
theorem has148 : Try.f148.body = some body148 := by kernel_rfl
noncomputable def body149 : Code := Try.f149.body.getD .skip
theorem has149 : Try.f149.body = some body149 := by kernel_rfl
noncomputable def body150 : Code := Try.f150.body.getD .skip
theorem has150 : Try.f150.body = some body150 := by kernel_rfl
noncomputable def body151 : Code := Try.f151.body.getD .skip
theorem has151 : Try.f151.body = some body151 := by kernel_rfl
noncomputable def body152 : Code := Try.f152.body.getD .skip
theorem has152 : Try.f152.body = some body152 := by kernel_rfl
noncomputable def body153 : Code := Try.f153.body.getD .skip
theorem has153 : Try.f153.body = some body153 := by kernel_rfl
noncomputable def body154 : Code := Try.f154.body.getD .skip
theorem has154 : Try.f154.body = some body154 := by kernel_rfl
noncomputable def body155 : Code := Try.f155.body.getD .skip
theorem has155 : Try.f155.body = some body155 := by kernel_rfl
noncomputable def body156 : Code := Try.f156.body.getD .skip
theorem has156 : Try.f156.body = some body156 := by kernel_rfl
noncomputable def body163 : Code := Try.f163.body.getD .skip
theorem has163 : Try.f163.body = some body163 := by kernel_rfl
noncomputable def body164 : Code := Try.f164.body.getD .skip
theorem has164 : Try.f164.body = some body164 := by kernel_rfl
noncomputable def body165 : Code := Try.f165.body.getD .skip
theorem has165 : Try.f165.body = some body165 := by kernel_rfl
noncomputable def body166 : Code := Try.f166.body.getD .skip
theorem has166 : Try.f166.body = some body166 := by kernel_rfl
noncomputable def body167 : Code := Try.f167.body.getD .skip
theorem has167 : Try.f167.body = some body167 := by kernel_rfl
end Go.Proofs.Ythfabodamhdhaaa
namespace Go.Proofs.Ythfabodamhdhaaa.Tx
open Go Go.RowKit
set_option linter.unusedSimpArgs false
set_option linter.unusedVariables false
theorem idxS {P : Program} (T : Env P) {dst : Option Tmp} {ty : TypeId} {pos : String} {after : Array Edge} {gd : Option (Nat × Bool)} {gs : List Nat} {σ : Sg} {K : Ef → Prop} {KF : Option KT} {t e n : Nat} {x ix : Operand} {s0 s : SV} {k : IntKind} {z : Int}
 {sz : Nat} {zr : List Value} {by_ : Nat} {ti : TI} (hx : gv σ x = some s0) (hix : gv σ ix = some (.v (.int k z))) (ht : T.ty t = some ⟨sz, zr, by_, .arr n e⟩) (he : T.ty e = some ti) (h01 : 0 ≤ z ∧ z < n)
 (hag : s0.isAgg = true) (hlen : ((s0.cells.drop (z.toNat * ti.size)).take ti.size).length = ti.size)
 (hs : (ti.kind.agg = true ∧ s = .agg ((s0.cells.drop (z.toNat * ti.size)).take ti.size)) ∨ (ti.kind.agg = false ∧ (s0.cells.drop (z.toNat * ti.size)).take ti.size = [s]))
 (hB : efB σ ⟨s, [], [], gs ++ (os x ++ os ix), []⟩ = true) (hK : K ⟨s, [], [], gs ++ (os x ++ os ix), []⟩) : OpEvS P ⟨dst, .index t x ix, ty, pos, after, gd⟩ gs σ K KF := by
 refine .mk _ hB (fun k hk => by simp [hk]) rfl (runOK_pure fun β a w hss => ?_) hK
 have e1 := gv_eval hss hx (fun k hk => by simp [hk])
 have e2 := gv_eval hss hix (fun k hk => by simp [hk])
 have hu := under_arr (T.tok t _ ht) rfl
 have hsz := (T.tok e ti he).run_sizeOf w
 obtain ⟨cs, hcs, hcs'⟩ : ∃ cs : List Value, s0.c β = .agg cs.toArray ∧ SV.cs β s0.cells = cs := by
  cases s0 with
  | agg l => exact ⟨_, rfl, rfl⟩
  | v v =>
   cases v with
   | agg c => exact ⟨c.toList, rfl, by simp only [SV.cells]; exact cs_v β _⟩
   | _ => cases hag
  | _ => cases hag
 have hp := run_part (P := P) (T.tok e ti he) (cs := cs) (off := z.toNat * ti.size) (w := w) (β := β) (l := (s0.cells.drop (z.toNat * ti.size)).take ti.size) (s := s)
  (by rw [← hcs', SV.cs_eq, SV.cs_eq, List.map_take, List.map_drop]) hlen hs
 simp only [execOp, Instr.index, e1, e2, hcs, SV.c, asIntOf, Sem.run_bind, Sem.run_pure, Result.andThen_ok, Go.run_underlying hu w, h01.1, h01.2, and_self, if_true, hsz, hp]
end Go.Proofs.Ythfabodamhdhaaa.Tx
namespace Go.Proofs.Ythfabodamhdhaaa.Tx
open Go Go.RowKit
set_option linter.unusedSimpArgs false
set_option linter.unusedVariables false
end Go.Proofs.Ythfabodamhdhaaa.Tx
namespace Go.Proofs.Ythfabodamhdhaaa.Tx
open Go Go.RowKit
set_option linter.unusedSimpArgs false
set_option linter.unusedVariables false
end Go.Proofs.Ythfabodamhdhaaa.Tx
namespace Go.Proofs.Ythfabodamhdhaaa.Tx
open Go Go.RowKit
set_option linter.unusedSimpArgs false
set_option linter.unusedVariables false
mutual
theorem SV.c_lt {β β' : Nat → Nat} {n : Nat} (h : ∀ i, i < n → β' i = β i) : ∀ s : SV, s.lt n = true → s.c β' = s.c β
 | .v _, _ => rfl
 | .ptr i o, hs => by simp only [SV.lt, Nat.blt_eq] at hs; simp only [SV.c, h i hs]
 | .sl i _ _ _, hs => by simp only [SV.lt, Nat.blt_eq] at hs; simp only [SV.c, h i hs]
 | .os i j _, hs => by simp only [SV.lt, Bool.and_eq_true, Nat.blt_eq] at hs; simp only [SV.c, h i hs.1, h j hs.2]
 | .agg l, hs => by simp only [SV.lt] at hs; simp only [SV.c, SV.cs_lt h l hs]
 | .fn _ cap, hs => by simp only [SV.lt] at hs; simp only [SV.c, SV.cs_lt h cap hs]
 | .mv _ cap, hs => by simp only [SV.lt] at hs; simp only [SV.c, SV.cs_lt h cap hs]
 | .tup l, hs => by simp only [SV.lt] at hs; simp only [SV.c, SV.cs_lt h l hs]
theorem SV.cs_lt {β β' : Nat → Nat} {n : Nat} (h : ∀ i, i < n → β' i = β i) : ∀ l : List SV, SV.lts n l = true → SV.cs β' l = SV.cs β l
 | [], _ => rfl
 | x :: r, hs => by
  simp only [SV.lts, Bool.and_eq_true] at hs
  simp only [SV.cs, SV.c_lt h x hs.1, SV.cs_lt h r hs.2]
end
theorem Blk.ok_nm {β β' : Nat → Nat} {n : Nat} (h : ∀ i, i < n → β' i = β i) {w : World} {b : Nat} (k : Blk) (hk : k.lt n = true) (ho : k.ok β w b) : k.ok β' w b := by
 cases k with
 | gone => trivial
 | cells l ty => simp only [Blk.ok] at *; rw [SV.cs_lt h l hk]; exact ho
 | row xs ty => exact ho
 | own j n' sz xs ty => simp only [Blk.lt, Nat.blt_eq] at hk; simp only [Blk.ok, h j hk] at *; exact ho
 | obj n p => exact ho
 | mix j n' sz vs xs ty => simp only [Blk.lt, Bool.and_eq_true, Nat.blt_eq] at hk; simp only [Blk.ok, h j hk.1, SV.cs_lt h xs hk.2] at *; exact ho
 | grow j n' sz xs ty => simp only [Blk.lt, Bool.and_eq_true, Nat.blt_eq] at hk; simp only [Blk.ok, h j hk.1, SV.cs_lt h xs hk.2] at *; exact ho
def pinG : Nat → List (Nat × SV)
 | 0 => []
 | n + 1 => (n, .ptr n 0) :: pinG n
theorem pinG_lk : ∀ {n i : Nat}, i < n → lk (pinG n) i = some (.ptr i 0)
 | n + 1, i, h => by
  rw [pinG, lk]
  cases hb : Nat.beq i n with
  | true => rw [Nat.eq_of_beq_eq_true hb]; rfl
  | false =>
   have : i ≠ n := fun e => by subst e; simp at hb
   exact pinG_lk (by omega)
theorem pinG_all : ∀ {n k : Nat} {s : SV}, lk (pinG n) k = some s → k < n ∧ s = .ptr k 0
 | n + 1, k, s, h => by
  rw [pinG, lk] at h
  cases hb : Nat.beq k n with
  | true =>
   rw [hb, cond_true, Option.some.injEq] at h
   have := Nat.eq_of_beq_eq_true hb
   subst this
   exact ⟨by omega, h.symm⟩
  | false =>
   rw [hb, cond_false] at h
   have := pinG_all h
   exact ⟨by omega, this.2⟩
end Go.Proofs.Ythfabodamhdhaaa.Tx
namespace Go.Proofs.Ythfabodamhdhaaa.Tx
open Go Go.RowKit
set_option linter.unusedSimpArgs false
set_option linter.unusedVariables false
theorem calls_fam2 {P : Program} (T : Env P) (hm : P.follows .mixedOrders = true) {k : Nat} {fn : Func} {c : Code} (hfn : P.funcs[k]? = some fn) (hb : fn.body = some c) {nt : Nat} (hnt : fn.ntmps = nt) (args : List Value)
 (hlen : args.length ≤ nt) {w : World} {R : Ending → World → Prop}
 (hvc : vc T c ⟨nt, slotsOf 0 (args.map .v), [], 0, Below w.heap.size w, z0⟩ (endΦ T fn fun s σ => (∀ w', σ.h w' → Below w.heap.size w w') ∧ ∀ β w', σ.h w' → Below w.heap.size w w' →
  (∀ i b, lk σ.m i = some b → b.live = true → w.heap.size ≤ β i ∧ b.ok β w' (β i)) → R (.returned (s.c β)) w')) :
 Calls P k args.toArray w R := by
 have h0 : Mem ⟨nt, slotsOf 0 (args.map .v), [], 0, Below w.heap.size w, z0⟩ (fun _ => 0) (fun b => b < w.heap.size) w :=
  ⟨fun i b h => (by simp [lk] at h), fun i j bi bj h => (by simp [lk] at h), fun i b h => (by simp [lk] at h), fun b h => h,
   fun w' hc => ⟨hc.os, hc.tape, hc.output, hc.size, fun b hb => hc.same b hb (fun h => h hb)⟩⟩
 have h1 := calls_vc T hm hfn hb hnt (args := args.map .v) (m0 := []) (nb0 := 0) (h := Below w.heap.size w) (by simpa using hlen) (lts_v _ _) (fun i b h => by simp [lk] at h) (fun k s h => by simp [z0, lk] at h) hvc cx0 (amb0 _ _ _) h0
 rw [cs_v] at h1
 refine h1.mono fun e w' ⟨s, σ', β', D', he, hv, _, _, hmem, _⟩ => ?_
 have hh := hmem.h w' (Chg.refl _ _)
 subst he
 exact hv.2 β' w' hh (hv.1 w' hh) fun i b hi hl => ⟨Nat.le_of_not_lt fun hlt => hmem.out i b hi hl (hmem.old hv.1 hlt), hmem.m i b hi⟩
end Go.Proofs.Ythfabodamhdhaaa.Tx
namespace Go.Proofs.Ythfabodamhdhaaa.Tx
open Go Go.RowKit
set_option linter.unusedSimpArgs false
set_option linter.unusedVariables false
theorem calls_fam3 {P : Program} (T : Env P) (hm : P.follows .mixedOrders = true) {k : Nat} {fn : Func} {c : Code} (hfn : P.funcs[k]? = some fn) (hb : fn.body = some c) {nt : Nat} (hnt : fn.ntmps = nt) (args : List Value)
 (hlen : args.length ≤ nt) {w : World} {R : Ending → World → Prop}
 (hvc : vc T c ⟨nt, slotsOf 0 (args.map .v), [], 0, Below w.heap.size w, z0⟩ (endΦ T fn fun s σ => (∀ w', σ.h w' → Below w.heap.size w w') ∧ ∀ β w', σ.h w' → Below w.heap.size w w' →
  (∀ i b, lk σ.m i = some b → b.live = true → w.heap.size ≤ β i ∧ b.ok β w' (β i)) → (∀ i j bi bj, lk σ.m i = some bi → lk σ.m j = some bj → bi.live = true → bj.live = true → i ≠ j → β i ≠ β j) → R (.returned (s.c β)) w')) :
 Calls P k args.toArray w R := by
 have h0 : Mem ⟨nt, slotsOf 0 (args.map .v), [], 0, Below w.heap.size w, z0⟩ (fun _ => 0) (fun b => b < w.heap.size) w :=
  ⟨fun i b h => (by simp [lk] at h), fun i j bi bj h => (by simp [lk] at h), fun i b h => (by simp [lk] at h), fun b h => h,
   fun w' hc => ⟨hc.os, hc.tape, hc.output, hc.size, fun b hb => hc.same b hb (fun h => h hb)⟩⟩
 have h1 := calls_vc T hm hfn hb hnt (args := args.map .v) (m0 := []) (nb0 := 0) (h := Below w.heap.size w) (by simpa using hlen) (lts_v _ _) (fun i b h => by simp [lk] at h) (fun k s h => by simp [z0, lk] at h) hvc cx0 (amb0 _ _ _) h0
 rw [cs_v] at h1
 refine h1.mono fun e w' ⟨s, σ', β', D', he, hv, _, _, hmem, _⟩ => ?_
 have hh := hmem.h w' (Chg.refl _ _)
 subst he
 exact hv.2 β' w' hh (hv.1 w' hh) (fun i b hi hl => ⟨Nat.le_of_not_lt fun hlt => hmem.out i b hi hl (hmem.old hv.1 hlt), hmem.m i b hi⟩) hmem.inj
theorem callR {P : Program} {σ : Sg} {k : Nat} {args : List SV} {rs : List Nat} {K : Ef → Prop} {KF : Option KT} (fr rb : List Nat) (m1 : List (Nat × Blk)) (V : SV)
 (hB : efB σ ⟨V, fr, m1, [], rb⟩ = true) (hfr : ∀ i b, (i, b) ∈ m1 → i ∈ fr)
 (h : ∀ β w, (∀ i ∈ rb, ∀ b, lk σ.m i = some b → b.ok β w (β i)) → σ.h w → Calls P k (SV.cs β args).toArray w fun e w' => ∃ γ : Nat → Nat, e = .returned (V.c γ) ∧ (∀ i, i ∉ fr → γ i = β i) ∧ Below w.heap.size w w' ∧
  (∀ i b, (i, b) ∈ m1 → w.heap.size ≤ γ i ∧ b.ok γ w' (γ i)) ∧ ∀ i b j b', (i, b) ∈ m1 → (j, b') ∈ m1 → i ≠ j → γ i ≠ γ j)
 (hK : K ⟨V, fr, m1, rs, rb⟩) : CallEv P σ k args (efB σ) rs K KF :=
 .mk ⟨V, fr, m1, [], rb⟩ hB (fun β w h1 _ hst => (h β w h1 (hst w (Chg.refl _ _))).mono fun e w' ⟨γ, he, ha, hB, ho, hi⟩ =>
  ⟨γ, he, ha, ⟨hB.os, hB.tape, hB.output, hB.size, fun i hi _ => hB.block i hi⟩, fun i b hm => (ho i b hm).2, fun i _ ⟨b, hm, _⟩ => .inl (ho i b hm).1, fun i _ j _ ⟨b, hm, _⟩ ⟨b', hm', _⟩ hne => hi i b j b' hm hm' hne⟩) hK
end Go.Proofs.Ythfabodamhdhaaa.Tx
namespace Go.Proofs.Ythfabodamhdhaaa.Tx
open Go Go.RowKit
set_option linter.unusedSimpArgs false
set_option linter.unusedVariables false
def Dis {α : Type} (σ : Sg) (I : α → Sg) (pre : α → Prop) : Prop := ∀ (X : Cx) (a : Act) (w : World), Sat X σ a w → ∃ x, pre x ∧ Sat X (I x) a w
theorem Dis.ent {α : Type} {σ : Sg} {I : α → Sg} {pre : α → Prop} {x : α} (hx : pre x) (h : Ent σ (I x)) : Dis σ I pre := fun X a w hs => ⟨x, hx, h X a w hs⟩
theorem Blk.keep_at {β : Nat → Nat} {w w' : World} {b : Nat} {k : Blk} (hw : w'.heap[b]? = w.heap[b]?) (ho : k.ok β w b) : k.ok β w' b :=
 Blk.ok_congr (fr := []) (fun _ _ => rfl) k (Blk.av_nil k) (fun _ => hw) ho
section
variable {P : Program} (T : Env P)
theorem VC.cutD (hm : P.follows .mixedOrders = true) {nt nb0 : Nat} {t0 : List (Nat × SV)} {m0 : List (Nat × Blk)} {hi : World → Prop} {z : Gz} {α : Type} (n nb : Nat) (t : α → List (Nat × SV)) (m : α → List (Nat × Blk)) (h : α → World → Prop) (pre : α → Prop) {c : Code} {Φ : Exit → Sg → Prop}
 (hok : ∀ x, pre x → tB nt nb (t x) = true ∧ mB nb (m x) = true)
 (hv : vcTo T n c ⟨nt, t0, m0, nb0, hi, z⟩ (fun c' σ' => c' = rest n c ∧ Dis σ' (fun x => ⟨nt, t x, m x, nb, h x, z⟩) pre) Φ) (hr : ∀ x, pre x → VC P (rest n c) ⟨nt, t x, m x, nb, h x, z⟩ Φ) (hz : gB nb z.g = true := by rfl) : VC P c ⟨nt, t0, m0, nb0, hi, z⟩ Φ :=
 vcTo_VC T hm (fun c' σ' ⟨hc, hd⟩ => by
  subst hc
  intro F k X a w hF hlp _ hs
  obtain ⟨x, hx, hs'⟩ := hd X a w hs
  exact hr x hx F k X a w hF hlp (okB (hok x hx).1 (hok x hx).2 hz) hs') n c _ hv
end
end Go.Proofs.Ythfabodamhdhaaa.Tx
namespace Go.Proofs.Ythfabodamhdhaaa.Tx
open Go Go.RowKit
set_option linter.unusedSimpArgs false
set_option linter.unusedVariables false
def TEqR (ρ : Nat → Nat) (β : Nat → Nat) (t : List (Nat × SV)) : List (Nat × SV) → Prop
 | [] => True
 | (k, s) :: r => (∃ s', lk t k = some s' ∧ s'.c β = s.c (fun i => β (ρ i))) ∧ TEqR ρ β t r
theorem TEqR.get {ρ : Nat → Nat} {β : Nat → Nat} {t : List (Nat × SV)} : ∀ {l : List (Nat × SV)}, TEqR ρ β t l → ∀ k s, lk l k = some s → ∃ s', lk t k = some s' ∧ s'.c β = s.c (fun i => β (ρ i))
 | [], _, _, _, h => by simp [lk] at h
 | (j, x) :: r, ha, k, s, h => by
  simp only [lk] at h
  cases hb : Nat.beq k j with
  | true =>
   obtain rfl := Nat.eq_of_beq_eq_true hb
   rw [hb, cond_true, Option.some.injEq] at h
   subst h; exact ha.1
  | false =>
   rw [hb, cond_false] at h
   exact ha.2.get k s h
def MEqR (ρ : Nat → Nat) (L : List Nat) (β : Nat → Nat) (t : List (Nat × Blk)) : List (Nat × Blk) → Prop
 | [] => True
 | (k, b) :: r => (nin (ρ k) L = true ∧ ∃ b', lk t (ρ k) = some b' ∧ (b.live = true → b'.live = true) ∧ ∀ w x, b'.ok β w x → b.ok (fun i => β (ρ i)) w x) ∧ MEqR ρ L β t r
theorem MEqR.get {ρ : Nat → Nat} {L : List Nat} {β : Nat → Nat} {t : List (Nat × Blk)} : ∀ {l : List (Nat × Blk)}, MEqR ρ L β t l → ∀ k b, lk l k = some b → nin (ρ k) L = true ∧ ∃ b', lk t (ρ k) = some b' ∧ (b.live = true → b'.live = true) ∧ ∀ w x, b'.ok β w x → b.ok (fun i => β (ρ i)) w x
 | [], _, _, _, h => by simp [lk] at h
 | (j, x) :: r, ha, k, b, h => by
  simp only [lk] at h
  cases hb : Nat.beq k j with
  | true =>
   obtain rfl := Nat.eq_of_beq_eq_true hb
   rw [hb, cond_true, Option.some.injEq] at h
   subst h; exact ha.1
  | false =>
   rw [hb, cond_false] at h
   exact ha.2.get k b h
theorem Dis.mk3 {α : Type} {nt nb nb' : Nat} {t : List (Nat × SV)} {m : List (Nat × Blk)} {h : World → Prop} {z : Gz} (ρ : Nat → Nat) (L : List Nat) {t' : α → List (Nat × SV)} {m' : α → List (Nat × Blk)} {h' : α → World → Prop} {pre : α → Prop} {w0 : World}
 (hz : z.g = []) (hL : ∀ i ∈ L, ∃ b, lk m i = some b ∧ b.live = true) (hbel : ∀ w, h w → Below w0.heap.size w0 w)
 (hx : ∀ β w, (∀ i b, lk m i = some b → b.ok β w (β i)) → h w → (∀ i b, lk m i = some b → b.live = true → w0.heap.size ≤ β i) →
  ∃ x, pre x ∧ TEqR ρ β t (t' x) ∧ MEqR ρ L β m (m' x) ∧ injR ρ (m' x) = true ∧ ∀ w2, h w2 → (∀ i ∈ L, ∀ b, lk m i = some b → b.ok β w2 (β i)) → h' x w2) :
 Dis ⟨nt, t, m, nb, h, z⟩ (fun x => ⟨nt, t' x, m' x, nb', h' x, z⟩) pre := by
 rintro X a w ⟨β, D, hs⟩
 have hmem := hs.mem
 obtain ⟨x, hp, ht, hm, hinj, hh⟩ := hx β w hs.m (hs.h w (Chg.refl _ _)) (fun i b hi hl => Nat.le_of_not_lt fun hlt => hmem.out i b hi hl (hmem.old hbel hlt))
 have hLc : ∀ i ∈ L, ∃ o, w.heap[β i]? = some o ∧ IsMem o := fun i hi => by
  obtain ⟨b, h1, h2⟩ := hL i hi
  exact Blk.ok_cells h2 (hs.m i b h1)
 have hno : ∀ (d : Nat) (o : Obj), w.heap[d]? = some o → Other o → ¬ ∃ i ∈ L, β i = d := by
  rintro d o h1 h2 ⟨i, hi, rfl⟩
  obtain ⟨o3, h3, h4⟩ := hLc i hi
  rw [h1] at h3
  cases h3
  exact h2 h4
 refine ⟨x, hp, fun i => β (ρ i), fun b => D b ∨ ∃ i ∈ L, β i = b, ?_, hs.size, ?_, ?_, ?_, ?_, ?_, ?_, ?_⟩
 · obtain ⟨l, l1, l2, l3⟩ := hs.defers
   refine ⟨l, l1, l2, fun d hd => ⟨(l3 d hd).1, ?_, (l3 d hd).2.2⟩⟩
   rintro (h1 | h1)
   · exact (l3 d hd).2.1 h1
   · exact hno d _ (l3 d hd).1 (fun h => h) h1
 · intro k s hk
   obtain ⟨s', h1, h2⟩ := ht.get k s hk
   rw [← h2]; exact hs.t k s' h1
 · intro i b hi
   obtain ⟨_, b', h1, _, h2⟩ := hm.get i b hi
   exact h2 _ _ (hs.m _ b' h1)
 · intro i j bi bj hi hj h1 h2 hne
   obtain ⟨_, b', hi', l1, _⟩ := hm.get i bi hi
   obtain ⟨_, b2', hj', l2, _⟩ := hm.get j bj hj
   exact hs.inj _ _ _ _ hi' hj' (l1 h1) (l2 h2) (injR_spec hinj i j (lk_key hi) (lk_key hj) hne)
 · intro i b hi hl
   obtain ⟨hn, b', hi', l1, _⟩ := hm.get i b hi
   rintro (h1 | ⟨j, hj, h1⟩)
   · exact hs.out _ _ hi' (l1 hl) h1
   · obtain ⟨bj, h2, h3⟩ := hL j hj
     refine hs.inj j _ _ _ h2 hi' h3 (l1 hl) (fun e => ?_) h1
     subst e
     exact nin_iff.1 hn hj
 · rintro b (h1 | ⟨j, hj, rfl⟩)
   · exact hs.dlt b h1
   · obtain ⟨o3, h3, _⟩ := hLc j hj
     exact (Array.getElem?_eq_some_iff.1 h3).1
 · intro w2 hc
   refine hh w2 (hs.h w2 ⟨hc.os, hc.tape, hc.output, hc.size, fun b hb hd => hc.same b hb fun h1 => hd fun h2 => h1 (.inl h2)⟩) fun i hi b hb => ?_
   obtain ⟨o3, h3, _⟩ := hLc i hi
   exact Blk.keep_at (hc.same _ (Array.getElem?_eq_some_iff.1 h3).1 fun h1 => h1 (.inr ⟨i, hi, rfl⟩)) (hs.m i b hb)
 · refine ⟨fun k s hk => by rw [hz] at hk; simp [lk] at hk, fun p hp' => ⟨(hs.amb.la p hp').1, ?_⟩, hs.amb.lq, hs.amb.dep, hs.amb.nd, fun d hd => ⟨(hs.amb.pr d hd).1, ?_⟩⟩
   · rintro (h1 | h1)
     · exact (hs.amb.la p hp').2 h1
     · obtain ⟨st, pd, h2⟩ := (hs.amb.la p hp').1
       exact hno _ _ h2 (fun h => h) h1
   · rintro (h1 | h1)
     · exact (hs.amb.pr d hd).2 h1
     · exact hno _ _ (hs.amb.pr d hd).1 (fun h => h) h1
theorem loopD {V : Sg → (Exit → Sg → Prop) → Prop} {nt nb : Nat} {t0 : List (Nat × SV)} {m0 : List (Nat × Blk)} {hi : World → Prop} {z : Gz} {Φ : Exit → Sg → Prop} {α : Type} (nb' : Nat) (t : α → List (Nat × SV)) (m : α → List (Nat × Blk)) (h : α → World → Prop)
 (pre : α → Prop) (μ : α → Nat) (h0 : Dis ⟨nt, t0, m0, nb, hi, z⟩ (fun x => ⟨nt, t x, m x, nb', h x, z⟩) pre) (hok : ∀ x, pre x → tB nt nb' (t x) = true ∧ mB nb' (m x) = true)
 (hr : ∀ x, pre x → V ⟨nt, t x, m x, nb', h x, z⟩ (seqΦ (fun σ' => Dis σ' (fun x => ⟨nt, t x, m x, nb', h x, z⟩) (fun x' => pre x' ∧ μ x' < μ x)) Φ)) (hz : gB nb' z.g = true := by rfl) : LoopEv V ⟨nt, t0, m0, nb, hi, z⟩ Φ :=
 .dis α (fun x => ⟨nt, t x, m x, nb', h x, z⟩) pre μ h0 fun x hx => ⟨okB (hok x hx).1 (hok x hx).2 hz, hr x hx⟩
attribute [irreducible] Dis
end Go.Proofs.Ythfabodamhdhaaa.Tx
namespace Go.Proofs.Ythfabodamhdhaaa.Tx
open Go Go.RowKit
set_option linter.unusedSimpArgs false
set_option linter.unusedVariables false
theorem Sat'.dof {X : Cx} {σ : Sg} {β : Nat → Nat} {D : Nat → Prop} {a : Act} {w : World} (hs : Sat' X σ β D a w) {b : Nat} (hk : ∀ w, σ.h w → ∃ cs ty fr, w.heap[b]? = some (.cells cs ty fr)) : D b := by
 refine Classical.byContradiction fun hD => ?_
 have hlt : b < w.heap.size := by
  obtain ⟨cs, ty, fr, h⟩ := hk w (hs.h w (Chg.refl _ _))
  exact (Array.getElem?_eq_some_iff.1 h).1
 have h2 := hs.h (w.putObj b (.deferred none)) ⟨rfl, rfl, rfl, Nat.le_of_eq World.putObj_size.symm, fun i hi hn => (World.putObj_heap_other (fun e => hn (e ▸ hD)))⟩
 obtain ⟨cs, ty, fr, h3⟩ := hk _ h2
 rw [World.putObj_heap_same hlt] at h3
 cases h3
theorem setCell_other {w : World} {ad : Addr} {v : Value} {b : Nat} (h : b ≠ ad.block) : (w.setCell ad v).heap[b]? = w.heap[b]? := by
 simp only [World.setCell, Array.getElem?_modify]
 rw [if_neg (fun e => h e.symm)]
theorem slLo {P : Program} (T : Env P) {dst : Option Tmp} {ty : TypeId} {pos : String} {after : Array Edge} {gd : Option (Nat × Bool)} {gs : List Nat} {σ : Sg} {K : Ef → Prop} {KF : Option KT} {t e n c z : Nat} {x lo : Operand} {ad : Addr} {k : IntKind}
 {sz : Nat} {zr : List Value} {by_ : Nat} {ti : TI} (hx : gv σ x = some (.v (.slice (some ad) n c))) (hl : gv σ lo = some (.v (.int k z))) (ht : T.ty t = some ⟨sz, zr, by_, .slice e⟩) (he : T.ty e = some ti) (hz : z < n) (hc : n ≤ c)
 (hB : efB σ ⟨.v (.slice (some (ad.add (z * ti.size))) (n - z) (c - z)), [], [], gs ++ (os x ++ os lo), []⟩ = true) (hK : K ⟨.v (.slice (some (ad.add (z * ti.size))) (n - z) (c - z)), [], [], gs ++ (os x ++ os lo), []⟩) : OpEvS P ⟨dst, .slice t x (some lo) none none, ty, pos, after, gd⟩ gs σ K KF := by
 refine .mk _ hB (fun k hk => by simp [hk]) rfl (runOK_pure fun β a w hss => ?_) hK
 have e1 := gv_eval hss hx (fun k hk => by simp [hk])
 have e2 := gv_eval hss hl (fun k hk => by simp [hk])
 have hu := under_slice (T.tok t _ ht) rfl
 have hel : P.elem t = e := by simp [Program.elem, hu]
 have hu' : P.underlying t = some (.slice (P.elem t)) := by rw [hel]; exact hu
 have hsz := (T.tok e ti he).run_sizeOf w
 simp only [execOp, Option.map_some, Option.map_none, e1, e2, SV.c, Sem.run_bind, Sem.run_pure, Result.andThen_ok]
 rw [run_sliceAt_slice w t _ _ _ _ hu', run_slice_l w t _ _ _ hu' _ _ (by omega) (by omega), hel, hsz]
 simp only [Result.andThen_ok, sliced, Int.toNat_natCast, Option.map_some]
 rw [if_neg (by omega)]
theorem slHi {P : Program} (T : Env P) {dst : Option Tmp} {ty : TypeId} {pos : String} {after : Array Edge} {gd : Option (Nat × Bool)} {gs : List Nat} {σ : Sg} {K : Ef → Prop} {KF : Option KT} {t e n c z : Nat} {x hi : Operand} {ad : Addr} {k : IntKind}
 {sz : Nat} {zr : List Value} {by_ : Nat} {ti : TI} (hx : gv σ x = some (.v (.slice (some ad) n c))) (hl : gv σ hi = some (.v (.int k z))) (ht : T.ty t = some ⟨sz, zr, by_, .slice e⟩) (he : T.ty e = some ti) (hc : z ≤ c)
 (hB : efB σ ⟨.v (.slice (some ad) z c), [], [], gs ++ (os x ++ os hi), []⟩ = true) (hK : K ⟨.v (.slice (some ad) z c), [], [], gs ++ (os x ++ os hi), []⟩) : OpEvS P ⟨dst, .slice t x none (some hi) none, ty, pos, after, gd⟩ gs σ K KF := by
 refine .mk _ hB (fun k hk => by simp [hk]) rfl (runOK_pure fun β a w hss => ?_) hK
 have e1 := gv_eval hss hx (fun k hk => by simp [hk])
 have e2 := gv_eval hss hl (fun k hk => by simp [hk])
 have hu := under_slice (T.tok t _ ht) rfl
 have hel : P.elem t = e := by simp [Program.elem, hu]
 have hu' : P.underlying t = some (.slice (P.elem t)) := by rw [hel]; exact hu
 have hsz := (T.tok e ti he).run_sizeOf w
 simp only [execOp, Option.map_some, Option.map_none, e1, e2, SV.c, Sem.run_bind, Sem.run_pure, Result.andThen_ok]
 rw [run_sliceAt_slice w t _ _ _ _ hu', run_slice_h w t _ _ _ hu' _ _ (by omega) (by omega), hel, hsz]
 simp only [Result.andThen_ok, sliced, Int.toNat_natCast, Option.map_some, Nat.zero_mul, Nat.sub_zero]
 have h0 : ad.add 0 = ad := by simp [Addr.add]
 rw [h0, ite_self]
end Go.Proofs.Ythfabodamhdhaaa.Tx
namespace Go.Proofs.Ythfabodamhdhaaa.Tx
open Go Go.RowKit
set_option linter.unusedSimpArgs false
set_option linter.unusedVariables false
def MpOk (P : Program) (k : TypeId) (H : Value → Value) : Obj → Prop
 | .map es _ => ∀ e ∈ es.toList, (∃ l, keyOf P k e.key = some l) ∧ e.val = H e.key
 | _ => False
theorem MpOk.empty (P : Program) (k : TypeId) (H : Value → Value) : MpOk P k H (.map #[] 0) := fun e he => by simp at he
theorem MpOk.put {P : Program} {t k e : TypeId} {H : Value → Value} {o : Obj} (h : MpOk P k H o) (K : Maps.Keyed P k) (ht : P.underlying t = some (.map k e)) {w : World} {b : Nat} (hb : w.heap[b]? = some o) {key : Value} {kl : Lit} (hkey : keyOf P k key = some kl) :
 ∃ o', (Instr.mapUpdate t (.map (some b)) key (H key)).run P w = .ok () (ChangeMaps.setBlock w b o') ∧ IsMem o' ∧ MpOk P k H o' := by
 cases o with
 | map es clock =>
  rcases K.find w hkey es.toList (fun e he => (h e he).1) with ⟨h1, h2⟩ | ⟨j, e0, h1, h2, h3⟩
  · refine ⟨.map (es.push ⟨key, H key, clock⟩) (clock + 1), ?_, trivial, ?_⟩
    · simp [Instr.mapUpdate, run_underlying ht, MapKept.run_getObj_map hb, K.check w false hkey, h1, MapKept.run_setObj_map _ hb, Result.andThen, ChangeMaps.setBlock]
    · intro e he
      simp only [Array.toList_push, List.mem_append, List.mem_singleton] at he
      rcases he with he | rfl
      · exact h e he
      · exact ⟨⟨kl, hkey⟩, rfl⟩
  · have hj : es[j]? = some e0 := by simpa using h2
    refine ⟨.map (es.modify j (fun e' => { e' with key := key, val := H key })) clock, ?_, trivial, ?_⟩
    · simp [Instr.mapUpdate, run_underlying ht, MapKept.run_getObj_map hb, K.check w false hkey, h1, hj, h3, K.stays w hkey, MapKept.run_setObj_map _ hb, Result.andThen, ChangeMaps.setBlock]
    · intro e he
      obtain ⟨i, hi⟩ := List.mem_iff_getElem?.1 he
      rw [Array.getElem?_toList, Array.getElem?_modify] at hi
      split at hi
      · subst_vars
        rw [hj] at hi
        simp only [Option.map_some, Option.some.injEq] at hi
        subst hi
        exact ⟨⟨kl, hkey⟩, rfl⟩
      · exact h e (List.mem_iff_getElem?.2 ⟨i, by rw [Array.getElem?_toList]; exact hi⟩)
 | _ => exact h.elim
end Go.Proofs.Ythfabodamhdhaaa.Tx
namespace Go.Proofs.Ythfabodamhdhaaa
open Go Tx Go.RowKit
set_option linter.unusedSimpArgs false
set_option linter.unusedVariables false
theorem under3 : Try.prog.underlying 3 = some (.int .i64) := by kernel_rfl
end Go.Proofs.Ythfabodamhdhaaa
namespace Go.Proofs.Ythfabodamhdhaaa
open Go Tx Go.RowKit
set_option linter.unusedSimpArgs false
set_option linter.unusedVariables false
abbrev prF (r : Int × Int) : List Value := [iv r.1, iv r.2]
structure Tw where
 O : List (Int × Int)
 s1 : Int
 s2 : Int
 pay : Int
 lot : Int
 rent : Int
 R : List (Int × Int)
 cold : Int
 cut : Int
structure Tn where
 oo : Option Addr
 oc : Nat
 ro : Option Addr
 rc : Nat
 d : Tw
abbrev Tn.cs (x : Tn) : List Value := [.slice x.oo x.d.O.length x.oc, iv x.d.s1, iv x.d.s2, iv x.d.pay, iv x.d.lot, iv x.d.rent, .slice x.ro x.d.R.length x.rc, iv x.d.cold, iv x.d.cut]
structure Lr where
 o : Option Addr
 c : Nat
 L : List (Int × Int)
abbrev Lr.cs (x : Lr) : List Value := [.slice x.o x.L.length x.c]
structure To where
 days : Int
 shift : Int
 size : Int
 T : List Tw
 L : List (List (Int × Int))
structure Tr where
 days : Int
 shift : Int
 size : Int
 to : Option Addr
 tc : Nat
 T : List Tn
 lo : Option Addr
 lc : Nat
 L : List Lr
abbrev Tr.cs (x : Tr) : List Value := [iv x.days, iv x.shift, iv x.size, .slice x.to x.T.length x.tc, .slice x.lo x.L.length x.lc]
abbrev Tr.v (x : Tr) : Value := .agg #[iv x.days, iv x.shift, iv x.size, .slice x.to x.T.length x.tc, .slice x.lo x.L.length x.lc]
abbrev Tr.d (x : Tr) : To := ⟨x.days, x.shift, x.size, x.T.map Tn.d, x.L.map Lr.L⟩
structure TnIn (t : Tn) (w : World) : Prop where
 o : Rd 2 prF (.slice t.oo t.d.O.length t.oc) t.d.O w
 r : Rd 2 prF (.slice t.ro t.d.R.length t.rc) t.d.R w
 ol : t.d.O.length ≤ 1000000
 rl : t.d.R.length ≤ 1000000
structure TrIn (x : Tr) (w : World) : Prop where
 t : Rd 9 Tn.cs (.slice x.to x.T.length x.tc) x.T w
 ti : ∀ t ∈ x.T, TnIn t w
 l : Rd 1 Lr.cs (.slice x.lo x.L.length x.lc) x.L w
 li : ∀ r ∈ x.L, Rd 2 prF (.slice r.o r.L.length r.c) r.L w
 tl : x.T.length ≤ 1000000
 ll : x.L.length ≤ 1000000
 lr : ∀ r ∈ x.L, r.L.length ≤ 1000000
 tcap : x.T.length ≤ x.tc
theorem TnIn.below {t : Tn} {w w' : World} (h : TnIn t w) (hb : Below w.heap.size w w') : TnIn t w' := ⟨h.o.below hb, h.r.below hb, h.ol, h.rl⟩
theorem TrIn.below {x : Tr} {w w' : World} (h : TrIn x w) (hb : Below w.heap.size w w') : TrIn x w' := ⟨h.t.below hb, fun t ht => (h.ti t ht).below hb, h.l.below hb, fun r hr => (h.li r hr).below hb, h.tl, h.ll, h.lr, h.tcap⟩
def apB (days : Int) : Int → List (Int × Int) → Bool
 | _, [] => true
 | last, r :: l => (decide (last + 1 ≤ r.1) && (decide (r.1 ≤ r.2) && decide (r.2 ≤ days - 1))) && apB days r.2 l
def twB (days : Int) (x : Tw) : Bool :=
 inB x.O.length 1 3 && (apB days (-1) x.O && ((decide (1 ≤ x.s1) && (decide (x.s1 ≤ x.s2) && decide (x.s2 ≤ 10))) && (inB x.pay 0 1000000 && (inB x.lot 0 100000 && (inB x.rent 0 1000000 &&
  (decide (x.R.length ≤ 3) && ((x.R.all fun r => decide (-60 ≤ r.1) && (decide (r.1 ≤ r.2) && decide (r.2 ≤ 60))) && (inB x.cold 0 60 && inB x.cut 0 1000))))))))
def quB (x : Tw) : Bool := decide (x.O.length + x.R.length = 0) && (decide (x.s1 = 0) && (decide (x.s2 = 0) && (decide (x.pay = 0) && (decide (x.lot = 0) && (decide (x.rent = 0) && (decide (x.cold = 0) && decide (x.cut = 0)))))))
def lgB (n i : Nat) (l : List (Int × Int)) : Bool := decide (l.length = n) && (decide (l[i]? = some (0, 0)) && l.all fun x => inB x.1 0 200 && inB x.2 0 1000000)
def toB (x : To) : Bool :=
 (inB x.days 1 60 && (inB x.shift 1 24 && (inB x.size 0 100000 && (inB x.T.length 2 9 && decide (x.L.length = x.T.length))))) &&
  (((x.T[0]?).any quB && (x.T.drop 1).all (twB x.days)) && (List.range x.L.length).all fun i => (x.L[i]?).any (lgB x.T.length i))
theorem within_ok (n lo hi : Int) (w : World) : Calls Try.prog 70 #[iv n, iv lo, iv hi] w fun e w' => e = .returned (.bool (inB n lo hi)) ∧ Below w.heap.size w w' := by
 refine calls_val env mixed Try.func70 has70 Try.ntmps70 [iv n, iv lo, iv hi] (by simp) ?_
 repeat'
  conv => whnf
  first
   | refine zA ?_ | refine zB ?_ | refine zC ?_ | refine zD ?_ | refine zE ?_ | refine zF ?_ | refine zG ?_ | refine zH ?_ | refine zJ ?_ | refine zI ?_ | refine splT ?_ | refine splF ?_ | refine splNot ?_
   | ((first | refine splIn ?_ ?_ | refine splD ?_ ?_ | refine splE ?_ ?_ | refine splNE ?_ ?_) <;> intro hc <;> first | (exfalso; omega) | (exfalso; dsimp only at hc; omega) | skip)
 all_goals exact ⟨fun β => congrArg Value.bool (by simp [inB, *]), fun w' h => h⟩
theorem In_ok (n lo hi : Int) (w : World) : Calls Try.prog 37 #[iv n, iv lo, iv hi] w fun e w' => e = .returned (.bool (inB n lo hi)) ∧ Below w.heap.size w w' := by
 refine calls_val env mixed Try.func37 has37 Try.ntmps37 [iv n, iv lo, iv hi] (by simp) ?_
 repeat'
  conv => whnf
  first
   | refine zA ?_ | refine zB ?_ | refine zC ?_ | refine zD ?_ | refine zE ?_ | refine zF ?_ | refine zG ?_ | refine zH ?_ | refine zJ ?_ | refine zI ?_ | refine splT ?_ | refine splF ?_ | refine splNot ?_
   | ((first | refine splIn ?_ ?_ | refine splD ?_ ?_ | refine splE ?_ ?_ | refine splNE ?_ ?_) <;> intro hc <;> first | (exfalso; omega) | (exfalso; dsimp only at hc; omega) | skip)
 all_goals exact ⟨fun β => congrArg Value.bool (by simp [inB, *]), fun w' h => h⟩
def lgO (x : To) (f t : Nat) : Int × Int := (((x.L[f]?).getD [])[t]?).getD (0, 0)
def lsO (x : To) (f t : Nat) : Int := imax 0 (((lgO x f t).1 + x.shift - 1).tdiv x.shift - 1)
structure ToN (x : To) : Prop where
 d : 1 ≤ x.days ∧ x.days ≤ 60
 s : 1 ≤ x.shift ∧ x.shift ≤ 24
 z : 0 ≤ x.size ∧ x.size ≤ 100000
 n : 2 ≤ x.T.length ∧ x.T.length ≤ 9
 l : x.L.length = x.T.length
 lr : ∀ r ∈ x.L, r.length = x.T.length ∧ ∀ p ∈ r, (0 ≤ p.1 ∧ p.1 ≤ 200) ∧ 0 ≤ p.2 ∧ p.2 ≤ 1000000
 t : ∀ k, 1 ≤ k → ∀ t, x.T[k]? = some t → twB x.days t = true
theorem ToN.leg {x : To} (h : ToN x) (f t : Nat) : (0 ≤ (lgO x f t).1 ∧ (lgO x f t).1 ≤ 200) ∧ 0 ≤ (lgO x f t).2 ∧ (lgO x f t).2 ≤ 1000000 := by
 unfold lgO
 cases hr : x.L[f]? with
 | none => simp
 | some r =>
  simp only [Option.getD_some]
  cases hp : r[t]? with
  | none => simp
  | some p => exact (h.lr r (List.mem_of_getElem? hr)).2 p (List.mem_of_getElem? hp)
theorem ToN.lost {x : To} (h : ToN x) (f t : Nat) : 0 ≤ lsO x f t ∧ lsO x f t ≤ 200 := by
 have h1 := h.leg f t
 have h2 := h.s
 unfold lsO
 have h3 : ((lgO x f t).1 + x.shift - 1).tdiv x.shift ≤ (lgO x f t).1 + x.shift - 1 := by
  rw [Int.tdiv_eq_ediv_of_nonneg (by omega)]
  exact Int.ediv_le_self _ (by omega)
 have h4 : (lgO x f t).1 + x.shift - 1 ≤ 224 := by omega
 have h5 : ((lgO x f t).1 + x.shift - 1).tdiv x.shift ≤ 200 := by
  rw [Int.tdiv_eq_ediv_of_nonneg (by omega)]
  refine Int.ediv_le_of_le_mul (by omega) ?_
  have : 200 * x.shift ≥ 200 * 1 := Int.mul_le_mul_of_nonneg_left (by omega) (by omega)
  omega
 rw [imax_eq]
 omega
set_option maxHeartbeats 1000000 in
set_option maxRecDepth 100000 in
theorem lost_ok (x : Tr) (f t : Nat) (w : World) (h : TrIn x w) (hn : ToN x.d) (hf : f < x.T.length) (ht : t < x.T.length) :
 Calls Try.prog 72 #[x.v, iv f, iv t] w fun e w' => e = .returned (iv (lsO x.d f t)) ∧ Below w.heap.size w w' := by
 obtain ⟨days, shift, size, to, tc, T, lo, lc, L⟩ := x
 obtain ⟨h1, h2, h3, h4, htl, hll, hlr, -⟩ := h
 have hs := hn.s
 have hlg := hn.leg f t
 have hls := hn.lost f t
 have hl := hn.l
 have hn9 := hn.n
 have hr9 := hn.lr
 dsimp only [Tr.d] at h1 h2 h3 h4 htl hll hlr hf ht hs hl hn9 hr9 ⊢
 simp only [List.length_map] at hl hn9 hr9
 refine calls_val env mixed Try.func72 has72 Try.ntmps72 [.agg #[iv days, iv shift, iv size, .slice to T.length tc, .slice lo L.length lc], iv f, iv t] (by simp) ?_
 obtain ⟨⟨ro, rc, r⟩, hr⟩ : ∃ r, L[f]? = some r := ⟨_, List.getElem?_eq_getElem (by omega)⟩
 have hrl := hr9 r (List.mem_of_getElem? (i := f) (by rw [List.getElem?_map, hr]; rfl))
 obtain ⟨⟨p1, p2⟩, hp⟩ : ∃ p, r[t]? = some p := ⟨_, List.getElem?_eq_getElem (by omega)⟩
 have hrd := h4 _ (List.mem_of_getElem? hr)
 dsimp only at hrd
 obtain ⟨_, la, rfl, _⟩ := h3.ptr (by omega)
 obtain ⟨_, ra, rfl, _⟩ := hrd.ptr (by omega)
 have hlgo : lgO (Tr.d ⟨days, shift, size, to, tc, T, some la, lc, L⟩) f t = (p1, p2) := by
  simp only [lgO, Tr.d, List.getElem?_map, hr, Option.map_some, Option.getD_some, hp]
 have e1 := fun (w' : World) hw' => rd_ati (h3.below (w' := w') hw') hr
 have e2 := fun (w' : World) hw' => rd_fld (hrd.below (w' := w') hw') hp 0 (iv p1) rfl
 have hv : lsO (Tr.d ⟨days, shift, size, to, tc, T, some la, lc, L⟩) f t = imax 0 ((p1 + shift - 1).tdiv shift - 1) := by unfold lsO; rw [hlgo]
 rw [hlgo] at hlg
 have hq : 0 ≤ (p1 + shift - 1).tdiv shift ∧ (p1 + shift - 1).tdiv shift ≤ 300 := by
  rw [hv, imax_eq] at hls
  have := Int.tdiv_nonneg (a := p1 + shift - 1) (b := shift) (by omega) (by omega)
  omega
 rw [hv]
 generalize hqq : (p1 + shift - 1).tdiv shift = q at *
 repeat'
  conv => whnf
  first
   | refine zA ?_ | refine zB ?_ | refine zC ?_ | refine zD ?_ | refine zE ?_ | refine zF ?_ | refine zG ?_ | refine zH ?_ | refine zJ ?_ | refine zI ?_ | refine splT ?_ | refine splF ?_ | refine splNot ?_
   | ((first | refine splIn ?_ ?_ | refine splD ?_ ?_ | refine splE ?_ ?_ | refine splNE ?_ ?_) <;> intro hc <;> first | (exfalso; omega) | (exfalso; dsimp only at hc; omega) | skip)
   | refine Exists.intro (α := List Value) [.slice (some ra) r.length rc] ⟨⟨rfl, fun w' hw' => e1 w' hw'⟩, ?_⟩
   | refine Exists.intro (α := List Value) [iv p1] ⟨⟨rfl, fun w' hw' => e2 w' hw'⟩, ?_⟩
   | refine Exists.intro (α := Int) q ⟨⟨by omega, hqq, by constructor <;> omega⟩, ?_⟩
 all_goals first | (exfalso; omega) | exact ⟨fun β => rfl, fun w' h => h⟩
end Go.Proofs.Ythfabodamhdhaaa
namespace Go.Proofs.Ythfabodamhdhaaa
open Go Tx Go.RowKit
set_option linter.unusedSimpArgs false
set_option linter.unusedVariables false
def rvB (x : Tw) (n : Int) : Bool := x.R.any fun r => inB n r.1 (r.2 + x.cold)
def dyO (x : Tw) (n : Int) : Int := if rvB x n = true then (x.pay * (1000 - x.cut)).tdiv 1000 else x.pay
structure TwN (x : Tw) : Prop where
 p : 0 ≤ x.pay ∧ x.pay ≤ 1000000
 t : 0 ≤ x.rent ∧ x.rent ≤ 1000000
 c : 0 ≤ x.cut ∧ x.cut ≤ 1000
 k : 0 ≤ x.cold ∧ x.cold ≤ 60
 l : 0 ≤ x.lot ∧ x.lot ≤ 100000
 s : 1 ≤ x.s1 ∧ x.s1 ≤ x.s2 ∧ x.s2 ≤ 10
 r : x.R.length ≤ 3 ∧ ∀ r ∈ x.R, -60 ≤ r.1 ∧ r.1 ≤ r.2 ∧ r.2 ≤ 60
 o : x.O.length ≤ 3
theorem TwN.of {days : Int} {x : Tw} (h : twB days x = true) : TwN x := by
 simp only [twB, inB, Bool.and_eq_true, decide_eq_true_eq, List.all_eq_true] at h
 obtain ⟨h1, h2, h3, h4, h5, h6, h7, h8, h9, h10⟩ := h
 exact ⟨by omega, by omega, by omega, by omega, by omega, by omega, ⟨h7, fun r hr => by have := h8 r hr; omega⟩, by omega⟩
theorem TwN.pc {x : Tw} (h : TwN x) : 0 ≤ x.pay * (1000 - x.cut) ∧ x.pay * (1000 - x.cut) ≤ 1000 * x.pay := by
 have h1 := h.p
 have h2 := h.c
 refine ⟨Int.mul_nonneg h1.1 (by omega), ?_⟩
 have := Int.mul_le_mul_of_nonneg_left (show 1000 - x.cut ≤ 1000 by omega) h1.1
 omega
theorem TwN.day {x : Tw} (h : TwN x) (n : Int) : 0 ≤ dyO x n ∧ dyO x n ≤ x.pay := by
 have h1 := h.p
 have h2 := h.pc
 unfold dyO
 split
 · rw [Int.tdiv_eq_ediv_of_nonneg h2.1]
   omega
 · omega
theorem any_take {α : Type} {p : α → Bool} {L : List α} {k : Nat} {x : α} (h : L[k]? = some x) : (L.take (k + 1)).any p = ((L.take k).any p || p x) := by
 rw [List.take_add_one, h]; simp
theorem any_yes {α : Type} {p : α → Bool} {L : List α} {k : Nat} {x : α} (h : L[k]? = some x) (hp : p x = true) : L.any p = true := List.any_eq_true.2 ⟨x, List.mem_of_getElem? h, hp⟩
set_option maxHeartbeats 2000000 in
set_option maxRecDepth 100000 in
theorem day_ok (t : Tn) (n : Int) (w : World) (h : TnIn t w) (hn : TwN t.d) (hb : -9000000000000 ≤ n ∧ n ≤ 9000000000000) :
 Calls Try.prog 71 #[.agg t.cs.toArray, iv n] w fun e w' => e = .returned (iv (dyO t.d n)) ∧ Below w.heap.size w w' := by
 obtain ⟨oo, oc, ro, rc, O, s1, s2, pay, lot, rent, R, cold, cut⟩ := t
 obtain ⟨-, h2, -, h4⟩ := h
 have hp := hn.p
 have hc := hn.c
 have hk := hn.k
 have hr := hn.r.2
 have hpc := hn.pc
 dsimp only at h2 h4 hp hc hk hr hpc ⊢
 refine calls_val env mixed Try.func71 has71 Try.ntmps71 [.agg #[.slice oo O.length oc, iv s1, iv s2, iv pay, iv lot, iv rent, .slice ro R.length rc, iv cold, iv cut], iv n] (by simp) ?_
 unfold dyO
 obtain ⟨q, hq⟩ : ∃ q, (pay * (1000 - cut)).tdiv 1000 = q := ⟨_, rfl⟩
 have hqb : 0 ≤ q ∧ q ≤ 1000000 := by
  rw [Int.tdiv_eq_ediv_of_nonneg hpc.1] at hq
  omega
 dsimp only
 rw [hq]
 generalize hpp : pay * (1000 - cut) = pp at *
 repeat'
  conv => whnf
  first
   | refine zA ?_ | refine zB ?_ | refine zC ?_ | refine zD ?_ | refine zE ?_ | refine zF ?_ | refine zG ?_ | refine zH ?_ | refine zJ ?_ | refine zI ?_ | refine splT ?_ | refine splF ?_ | refine splNot ?_
   | ((first | refine splIn ?_ ?_ | refine splD ?_ ?_ | refine splE ?_ ?_ | refine splNE ?_ ?_) <;> intro hc <;> first | (exfalso; omega) | (exfalso; dsimp only at hc; omega) | skip)
   | ((with_reducible show CallEv _ _ 106 _ _ _ _ _); refine callI env mixed 1000 [2] Try.func106 has106 Try.ntmps106 (Nat.le_of_ble_eq_true rfl) rfl rfl rfl ?_)
   | ((with_reducible show CallEv _ _ 143 _ _ _ _ _); refine callI env mixed 2000 [] Try.func143 has143 Try.ntmps143 (Nat.le_of_ble_eq_true rfl) rfl rfl rfl ?_)
 refine loopE (fun k : Nat => [(0, .v (.slice ro R.length rc)), (1, .fn (.func 107) [.ptr 1 0, .ptr 0 0]), (7, .v (iv R.length)), (8, .v (iv k))]) (fun _ => [(0, .cells [.v (.slice oo O.length oc), .v (iv s1), .v (iv s2), .v (iv pay), .v (iv lot), .v (iv rent), .v (.slice ro R.length rc), .v (iv cold), .v (iv cut)] 57), (1, .cells [.v (iv n)] 3)]) (fun k => k ≤ R.length ∧ ((R.take k).any fun r => inB n r.1 (r.2 + cold)) = false) (fun k => R.length - k) 0 ⟨Nat.zero_le _, rfl⟩ ⟨rfl, rfl, rfl, rfl, trivial⟩ ⟨rfl, rfl, trivial⟩ (fun _ => ⟨rfl, rfl⟩) ?_
 intro k ⟨hk, hall⟩
 rcases Nat.lt_or_ge k R.length with hkl | hkl
 · obtain ⟨⟨r1, r2⟩, hx⟩ : ∃ b, R[k]? = some b := ⟨_, List.getElem?_eq_getElem hkl⟩
   obtain ⟨_, ad, rfl, _⟩ := h2.ptr (by omega)
   have e0 := fun (w' : World) hw' => rd_ati (h2.below (w' := w') hw') hx
   have ht := any_take (p := fun r : Int × Int => inB n r.1 (r.2 + cold)) hx
   rw [hall, Bool.false_or] at ht
   have hrb := hr _ (List.mem_of_getElem? hx)
   dsimp only at hrb ht
   have hv := fun w' => within_ok n r1 (r2 + cold) w'
   cases hg : inB n r1 (r2 + cold) with
   | false =>
    rw [hg] at hv ht
    repeat'
     conv => whnf
     first
      | refine zA ?_ | refine zB ?_ | refine zC ?_ | refine zD ?_ | refine zE ?_ | refine zF ?_ | refine zG ?_ | refine zH ?_ | refine zJ ?_ | refine zI ?_ | refine splT ?_ | refine splF ?_ | refine splNot ?_
      | ((first | refine splIn ?_ ?_ | refine splD ?_ ?_ | refine splE ?_ ?_ | refine splNE ?_ ?_) <;> intro hc <;> first | (exfalso; omega) | (exfalso; dsimp only at hc; omega) | skip)
      | refine Exists.intro (α := List Value) [iv r1, iv r2] ⟨⟨rfl, fun w' hw' => e0 w' hw'⟩, ?_⟩
      | ((with_reducible show CallEv _ _ 107 _ _ _ _ _); refine callI env mixed 4000 [0,1,5,7,8] Try.func107 has107 Try.ntmps107 (Nat.le_of_ble_eq_true rfl) rfl rfl rfl ?_)
      | ((with_reducible show CallEv _ _ 70 _ _ _ _ _); refine callE (k := 70) (fun β w' hbw => hv _) ?_)
    all_goals first | (exfalso; omega) | exact ⟨k + 1, ⟨by omega, ht⟩, by omega, Ent.weak rfl ⟨rfl, rfl, rfl, rfl, trivial⟩ ⟨rfl, rfl, trivial⟩ fun _ h => h⟩
   | true =>
    rw [hg] at hv
    have hwr : pp = IntKind.i64.wrap (pay * (1000 - cut)) := by rw [hpp]; exact (IR.wrap (k := .i64) ⟨by omega, by omega⟩).symm
    rw [show rvB ⟨O, s1, s2, pay, lot, rent, R, cold, cut⟩ n = true from any_yes (p := fun r : Int × Int => inB n r.1 (r.2 + cold)) hx hg, if_pos rfl]
    repeat'
     conv => whnf
     first
      | refine zA ?_ | refine zB ?_ | refine zC ?_ | refine zD ?_ | refine zE ?_ | refine zF ?_ | refine zG ?_ | refine zH ?_ | refine zJ ?_ | refine zI ?_ | refine splT ?_ | refine splF ?_ | refine splNot ?_
      | ((first | refine splIn ?_ ?_ | refine splD ?_ ?_ | refine splE ?_ ?_ | refine splNE ?_ ?_) <;> intro hc <;> first | (exfalso; omega) | (exfalso; dsimp only at hc; omega) | skip)
      | refine Exists.intro (α := List Value) [iv r1, iv r2] ⟨⟨rfl, fun w' hw' => e0 w' hw'⟩, ?_⟩
      | ((with_reducible show CallEv _ _ 107 _ _ _ _ _); refine callI env mixed 4000 [0,1,5,7,8] Try.func107 has107 Try.ntmps107 (Nat.le_of_ble_eq_true rfl) rfl rfl rfl ?_)
      | ((with_reducible show CallEv _ _ 70 _ _ _ _ _); refine callE (k := 70) (fun β w' hbw => hv _) ?_)
      | refine Exists.intro (α := Int) q ⟨⟨by decide, by rw [hpp]; exact hq, by constructor <;> omega⟩, ?_⟩
    all_goals first | (exfalso; omega) | exact ⟨fun β => rfl, fun w' h => h⟩
 · rw [List.take_of_length_le hkl] at hall
   rw [show rvB ⟨O, s1, s2, pay, lot, rent, R, cold, cut⟩ n = false from hall, if_neg (by decide)]
   repeat'
    conv => whnf
    first
     | refine zA ?_ | refine zB ?_ | refine zC ?_ | refine zD ?_ | refine zE ?_ | refine zF ?_ | refine zG ?_ | refine zH ?_ | refine zJ ?_ | refine zI ?_ | refine splT ?_ | refine splF ?_ | refine splNot ?_
     | ((first | refine splIn ?_ ?_ | refine splD ?_ ?_ | refine splE ?_ ?_ | refine splNE ?_ ?_) <;> intro hc <;> first | (exfalso; omega) | (exfalso; dsimp only at hc; omega) | skip)
   all_goals first | (exfalso; omega) | exact ⟨fun β => rfl, fun w' h => h⟩
def gnS (x : Tw) (first : Int) : Nat → Int
 | 0 => 0
 | n + 1 => gnS x first n + (dyO x (first + n) - x.rent)
theorem TwN.gn {x : Tw} (h : TwN x) (first : Int) : ∀ n : Nat, -1000000 * (n : Int) ≤ gnS x first n ∧ gnS x first n ≤ 1000000 * (n : Int)
 | 0 => by simp [gnS]
 | n + 1 => by
  have ih := h.gn first n
  have h1 := h.day (first + n)
  have h2 := h.p
  have h3 := h.t
  simp only [gnS]
  omega
def gnO (x : To) (k : Nat) (first last : Int) : Int := match x.T[k]? with | some t => gnS t first (last + 1 - first).toNat | none => 0
set_option maxHeartbeats 2000000 in
set_option maxRecDepth 100000 in
theorem gain_ok (x : Tr) (k : Nat) (first last : Int) (w : World) (h : TrIn x w) (hn : ToN x.d) (hk1 : 1 ≤ k) (hk : k < x.T.length) (hf : -2000000000 ≤ first ∧ last ≤ 2000000000 ∧ first ≤ last + 1 ∧ last - first ≤ 1000) :
 Calls Try.prog 101 #[x.v, .agg #[iv k, iv first, iv last]] w fun e w' => e = .returned (iv (gnO x.d k first last)) ∧ Below w.heap.size w w' := by
 obtain ⟨t, ht⟩ : ∃ t, x.T[k]? = some t := ⟨_, List.getElem?_eq_getElem hk⟩
 have htd : x.d.T[k]? = some t.d := by simp only [Tr.d, List.getElem?_map, ht, Option.map_some]
 have htn := TwN.of (hn.t k hk1 _ htd)
 have hti := h.ti t (List.mem_of_getElem? ht)
 have h71 := fun d hd w' hb => day_ok t d w' (hti.below hb) htn hd
 have hgo : gnO x.d k first last = gnS t.d first (last + 1 - first).toNat := by unfold gnO; rw [htd]
 rw [hgo]
 have h1 := h.t
 have htl := h.tl
 obtain ⟨days, shift, size, to, tc, T, lo, lc, L⟩ := x
 dsimp only at h1 ht htl hk ⊢
 obtain ⟨oo, oc, ro, rc, O, s1, s2, pay, lot, rent, R, cold, cut⟩ := t
 have hgb := htn.gn first
 have hdb := htn.day
 have hpb := htn.p
 have hrb := htn.t
 dsimp only at h71 hgb hdb hpb hrb ⊢
 refine calls_val env mixed Try.func101 has101 Try.ntmps101 [.agg #[iv days, iv shift, iv size, .slice to T.length tc, .slice lo L.length lc], .agg #[iv k, iv first, iv last]] (by simp) ?_
 obtain ⟨_, ad, rfl, _⟩ := h1.ptr (by omega)
 have e0 := fun (w' : World) hw' => rd_ati (h1.below (w' := w') hw') ht
 obtain ⟨m, hm⟩ : ∃ m, (last + 1 - first).toNat = m := ⟨_, rfl⟩
 rw [hm]
 repeat'
  conv => whnf
  first
   | refine zA ?_ | refine zB ?_ | refine zC ?_ | refine zD ?_ | refine zE ?_ | refine zF ?_ | refine zG ?_ | refine zH ?_ | refine zJ ?_ | refine zI ?_ | refine splT ?_ | refine splF ?_ | refine splNot ?_
   | ((first | refine splIn ?_ ?_ | refine splD ?_ ?_ | refine splE ?_ ?_ | refine splNE ?_ ?_) <;> intro hc <;> first | (exfalso; omega) | (exfalso; dsimp only at hc; omega) | skip)
   | refine Exists.intro (α := List Value) [.slice oo O.length oc, iv s1, iv s2, iv pay, iv lot, iv rent, .slice ro R.length rc, iv cold, iv cut] ⟨⟨rfl, fun w' hw' => e0 w' hw'⟩, ?_⟩
 all_goals first | (exfalso; omega) | skip
 refine loopE (fun i : Nat => [(2, .ptr 0 0), (3, .ptr 1 0), (4, .v (iv (gnS ⟨O, s1, s2, pay, lot, rent, R, cold, cut⟩ first i))), (5, .ptr 2 0), (6, .v (iv (first + i)))]) (fun _ => [(0, .cells [.v (iv days), .v (iv shift), .v (iv size), .v (.slice (some ad) T.length tc), .v (.slice lo L.length lc)] 35), (1, .cells [.v (iv k), .v (iv first), .v (iv last)] 96), (2, .cells [.v (.slice oo O.length oc), .v (iv s1), .v (iv s2), .v (iv pay), .v (iv lot), .v (iv rent), .v (.slice ro R.length rc), .v (iv cold), .v (iv cut)] 57)]) (fun i => i ≤ m) (fun i => m - i) 0 (Nat.zero_le _) ⟨rfl, rfl, rfl, rfl, by simp; rfl, trivial⟩ ⟨rfl, rfl, rfl, trivial⟩ (fun _ => ⟨rfl, rfl⟩) ?_
 intro i hi
 have hgi := hgb i
 rcases Nat.lt_or_ge i m with hil | hil
 · have hs : gnS ⟨O, s1, s2, pay, lot, rent, R, cold, cut⟩ first (i + 1) = gnS ⟨O, s1, s2, pay, lot, rent, R, cold, cut⟩ first i + (dyO ⟨O, s1, s2, pay, lot, rent, R, cold, cut⟩ (first + i) - rent) := rfl
   have hdi := hdb (first + i)
   have hcl := h71 (first + i) (by omega)
   generalize gnS ⟨O, s1, s2, pay, lot, rent, R, cold, cut⟩ first i = A at *
   generalize dyO ⟨O, s1, s2, pay, lot, rent, R, cold, cut⟩ (first + i) = B at *
   repeat'
    conv => whnf
    first
     | refine zA ?_ | refine zB ?_ | refine zC ?_ | refine zD ?_ | refine zE ?_ | refine zF ?_ | refine zG ?_ | refine zH ?_ | refine zJ ?_ | refine zI ?_ | refine splT ?_ | refine splF ?_ | refine splNot ?_
     | ((first | refine splIn ?_ ?_ | refine splD ?_ ?_ | refine splE ?_ ?_ | refine splNE ?_ ?_) <;> intro hc <;> first | (exfalso; omega) | (exfalso; dsimp only at hc; omega) | skip)
     | ((with_reducible show CallEv _ _ 71 _ _ _ _ _); refine callE (k := 71) (fun β w' hbw => hcl w' hbw) ?_)
   all_goals first | (exfalso; omega) | exact ⟨i + 1, by omega, by omega, Ent.weak rfl ⟨rfl, rfl, by rw [hs]; rfl, rfl, by rw [Int.natCast_add, ← Int.add_assoc]; rfl, trivial⟩ ⟨rfl, rfl, rfl, trivial⟩ fun _ h => h⟩
 · obtain rfl : i = m := by omega
   repeat'
    conv => whnf
    first
     | refine zA ?_ | refine zB ?_ | refine zC ?_ | refine zD ?_ | refine zE ?_ | refine zF ?_ | refine zG ?_ | refine zH ?_ | refine zJ ?_ | refine zI ?_ | refine splT ?_ | refine splF ?_ | refine splNot ?_
     | ((first | refine splIn ?_ ?_ | refine splD ?_ ?_ | refine splE ?_ ?_ | refine splNE ?_ ?_) <;> intro hc <;> first | (exfalso; omega) | (exfalso; dsimp only at hc; omega) | skip)
   all_goals first | (exfalso; omega) | exact ⟨fun β => rfl, fun w' h => h⟩
end Go.Proofs.Ythfabodamhdhaaa
namespace Go.Proofs.Ythfabodamhdhaaa
open Go Tx Go.RowKit
set_option linter.unusedSimpArgs false
set_option linter.unusedVariables false
def unp (n S : Nat) : Nat := ((List.range n).filter fun t => !(S.testBit (t + 1))).length
section
variable (x : To) (AL : Nat → Nat → List Nat)
def csO (x : To) (f t : Nat) : Int := (lgO x f t).2
def lsN (x : To) (f t : Nat) : Nat := (lsO x f t).toNat
def bgF (hm : Nat → Nat → Nat → Int) (S a : Nat) : Nat → Nat → Int
 | 0, _ => -1000000000000
 | m + 1, d => (AL a d).foldl (fun (n : Int) (l : Nat) => imax n (gnO x a d l + hm (S ||| 2 ^ a) a (l + 1))) (bgF hm S a m (d + 1))
def bsO (S a d : Nat) : Int := if S = 0 then 0 else if lsO x a 0 + d ≤ x.days then -csO x a 0 else -1000000000000
def hmF : Nat → Nat → Nat → Nat → Int
 | 0, S, a, d => bsO x S a d
 | k + 1, S, a, d => (List.range (x.T.length - 1)).foldl (fun (n : Int) (t : Nat) => if S.testBit (t + 1) = true then n else imax n (bgF x AL (hmF k) S (t + 1) (x.days.toNat - (d + lsN x a (t + 1))) (d + lsN x a (t + 1)) - csO x a (t + 1))) (bsO x S a d)
def hmO (S a d : Nat) : Int := hmF x AL (unp (x.T.length - 1) S) S a d
def bgO (S a d : Nat) : Int := bgF x AL (hmO x AL) S a (x.days.toNat - d) d
end
theorem gn_bd {x : To} (h : ToN x) {a d l : Nat} (ha : 1 ≤ a) (hl : d ≤ l ∧ l < d + 10) : -10000000 ≤ gnO x a d l ∧ gnO x a d l ≤ 10000000 := by
 unfold gnO
 cases ht : x.T[a]? with
 | none => simp
 | some t =>
  have := (TwN.of (h.t a ha t ht)).gn d ((l : Int) + 1 - d).toNat
  dsimp only
  omega
end Go.Proofs.Ythfabodamhdhaaa
namespace Go.Proofs.Ythfabodamhdhaaa.Tx
open Go Go.RowKit
set_option linter.unusedSimpArgs false
set_option linter.unusedVariables false
end Go.Proofs.Ythfabodamhdhaaa.Tx
namespace Go.Proofs.Ythfabodamhdhaaa
open Go Tx Go.RowKit
set_option linter.unusedSimpArgs false
set_option linter.unusedVariables false
def stD (f : Nat → Nat → Nat → Int) : Value → Value
 | .agg c => match c.toList with
  | [.int _ s, .int _ a, .int _ d] => iv (f s.toNat a.toNat d.toNat)
  | _ => undef
 | _ => undef
abbrev slF (a d l : Nat) : List Value := [iv a, iv d, iv l]
structure Alp where
 aa : Addr
 ra : Nat → Addr × Nat
 so : Nat → Nat → Option Addr × Nat
def AlIn (x : To) (AL : Nat → Nat → List Nat) (p : Alp) (w : World) : Prop := ∀ a, 1 ≤ a → a < x.T.length → w.cell? (p.aa.add (a * 1)) = some (.slice (some (p.ra a).1) x.days.toNat (p.ra a).2) ∧
 ∀ d, d < x.days.toNat → w.cell? ((p.ra a).1.add (d * 1)) = some (.slice (p.so a d).1 (AL a d).length (p.so a d).2) ∧ Rd 3 (slF a d) (.slice (p.so a d).1 (AL a d).length (p.so a d).2) (AL a d) w
section
variable (x : Tr) (AL : Nat → Nat → List Nat) (aa : Alp) (an ac b1 b2 : Nat)
abbrev MB : List (Nat × Blk) := [(4, .obj b1 (MpOk Try.prog 118 (stD (hmO x.d AL)))), (5, .obj b2 (MpOk Try.prog 118 (stD (bgO x.d AL)))), (0, .cells [.ptr 2 0] 114), (1, .cells [.v (.map (some b1))] 169),
 (2, .cells [.v (iv x.days), .v (iv x.shift), .v (iv x.size), .v (.slice x.to x.T.length x.tc), .v (.slice x.lo x.L.length x.lc), .v (.slice (some aa.aa) an ac), .fn (.func 97) [.ptr 1 0, .ptr 0 0], .fn (.func 100) [.ptr 0 0, .ptr 3 0]] 122), (3, .cells [.v (.map (some b2))] 169)]
abbrev Hp (w : World) : Prop := TrIn x w ∧ AlIn x.d AL aa w
structure PS (β : Nat → Nat) (w : World) : Prop where
 o : ∀ i b, lk (MB x AL aa an ac b1 b2) i = some b → b.ok β w (β i)
 inj : ∀ i j, i < 6 → j < 6 → i ≠ j → β i ≠ β j
end
section
variable {x : Tr} {AL : Nat → Nat → List Nat} {aa : Alp} {an ac b1 b2 : Nat}
theorem lkMB {i : Nat} {b : Blk} (h : lk (MB x AL aa an ac b1 b2) i = some b) : i < 6 ∧ b.live = true := by
 have hm := lk_mem h
 simp only [MB, List.mem_cons, Prod.mk.injEq, List.not_mem_nil, or_false] at hm
 rcases hm with ⟨rfl, rfl⟩ | ⟨rfl, rfl⟩ | ⟨rfl, rfl⟩ | ⟨rfl, rfl⟩ | ⟨rfl, rfl⟩ | ⟨rfl, rfl⟩ <;> exact ⟨by decide, rfl⟩
theorem MB_some {i : Nat} (h : i < 6) : ∃ b, lk (MB x AL aa an ac b1 b2) i = some b := by
 rcases (by omega : i = 0 ∨ i = 1 ∨ i = 2 ∨ i = 3 ∨ i = 4 ∨ i = 5) with rfl | rfl | rfl | rfl | rfl | rfl <;> exact ⟨_, rfl⟩
theorem PS.chg {β : Nat → Nat} {w w' : World} (h : PS x AL aa an ac b1 b2 β w) (hc : Chg (fun b => b = b1 ∨ b = b2) w w') : Chg (fun b => ∃ i bk, (i, bk) ∈ [(4, Blk.obj b1 (MpOk Try.prog 118 (stD (hmO x.d AL)))), (5, Blk.obj b2 (MpOk Try.prog 118 (stD (bgO x.d AL))))] ∧ β i = b) w w' :=
 ⟨hc.os, hc.tape, hc.output, hc.size, fun b hb hn => hc.same b hb fun h2 => hn (by
  rcases h2 with rfl | rfl
  · exact ⟨4, _, List.mem_cons_self .., (h.o 4 _ rfl).1⟩
  · exact ⟨5, _, List.mem_cons_of_mem _ (List.mem_cons_self ..), (h.o 5 _ rfl).1⟩)⟩
theorem PS.out {β : Nat → Nat} {w : World} (h : PS x AL aa an ac b1 b2 β w) : ∀ i b, (i, b) ∈ [(4, Blk.obj b1 (MpOk Try.prog 118 (stD (hmO x.d AL)))), (5, Blk.obj b2 (MpOk Try.prog 118 (stD (bgO x.d AL))))] → b.ok β w (β i) := fun i b hm => by
 simp only [List.mem_cons, Prod.mk.injEq, List.not_mem_nil, or_false] at hm
 rcases hm with ⟨rfl, rfl⟩ | ⟨rfl, rfl⟩
 · exact h.o 4 _ rfl
 · exact h.o 5 _ rfl
theorem PS.of {σ : Sg} {β : Nat → Nat} {w : World} (hm : ∀ i, i < 6 → lk σ.m i = lk (MB x AL aa an ac b1 b2) i) (h1 : ∀ i ∈ [0, 1, 2, 3, 4, 5], ∀ b, lk σ.m i = some b → b.ok β w (β i))
 (h2 : ∀ i ∈ [0, 1, 2, 3, 4, 5], ∀ j ∈ [0, 1, 2, 3, 4, 5], ∀ bi bj, lk σ.m i = some bi → lk σ.m j = some bj → bi.live = true → bj.live = true → i ≠ j → β i ≠ β j) : PS x AL aa an ac b1 b2 β w := by
 have hmem : ∀ i, i < 6 → i ∈ [0, 1, 2, 3, 4, 5] := fun i hi => by simp; omega
 refine ⟨fun i b hi => h1 i (hmem i (lkMB hi).1) b (by rw [hm i (lkMB hi).1]; exact hi), fun i j hi hj hne => ?_⟩
 obtain ⟨bi, ei⟩ := MB_some (x := x) (AL := AL) (aa := aa) (an := an) (ac := ac) (b1 := b1) (b2 := b2) hi
 obtain ⟨bj, ej⟩ := MB_some (x := x) (AL := AL) (aa := aa) (an := an) (ac := ac) (b1 := b1) (b2 := b2) hj
 exact h2 i (hmem i hi) j (hmem j hj) bi bj (by rw [hm i hi]; exact ei) (by rw [hm j hj]; exact ej) (lkMB ei).2 (lkMB ej).2 hne
end
end Go.Proofs.Ythfabodamhdhaaa
namespace Go.Proofs.Ythfabodamhdhaaa
open Go Tx Go.RowKit
set_option linter.unusedSimpArgs false
set_option linter.unusedVariables false
def rgB (lo hi : Int) (r : Int × Int) : Bool := decide (lo ≤ r.1) && (decide (r.1 ≤ r.2) && decide (r.2 ≤ hi))
theorem in_ok (r1 r2 lo hi : Int) (w : World) : Calls Try.prog 137 #[.agg #[iv r1, iv r2], iv lo, iv hi] w fun e w' => e = .returned (.bool (rgB lo hi (r1, r2))) ∧ Below w.heap.size w w' := by
 refine calls_val env mixed Try.func137 has137 Try.ntmps137 [.agg #[iv r1, iv r2], iv lo, iv hi] (by simp) ?_
 repeat'
  conv => whnf
  first
   | refine zA ?_ | refine zB ?_ | refine zC ?_ | refine zD ?_ | refine zE ?_ | refine zF ?_ | refine zG ?_ | refine zH ?_ | refine zJ ?_ | refine zI ?_ | refine splT ?_ | refine splF ?_ | refine splNot ?_
   | ((first | refine splIn ?_ ?_ | refine splD ?_ ?_ | refine splE ?_ ?_ | refine splNE ?_ ?_) <;> intro hc <;> first | (exfalso; omega) | (exfalso; dsimp only at hc; omega) | skip)
 all_goals exact ⟨fun β => congrArg Value.bool (by simp [rgB, *]), fun w' h => h⟩
theorem has_ok (r1 r2 n : Int) (w : World) : Calls Try.prog 166 #[.agg #[iv r1, iv r2], iv n] w fun e w' => e = .returned (.bool (inB n r1 r2)) ∧ Below w.heap.size w w' := by
 refine calls_val env mixed Try.func166 has166 Try.ntmps166 [.agg #[iv r1, iv r2], iv n] (by simp) ?_
 have hv := fun w' => within_ok n r1 r2 w'
 repeat'
  conv => whnf
  first
   | refine zA ?_ | refine zB ?_ | refine zC ?_ | refine zD ?_ | refine zE ?_ | refine zF ?_ | refine zG ?_ | refine zH ?_ | refine zJ ?_ | refine zI ?_ | refine splT ?_ | refine splF ?_ | refine splNot ?_
   | ((first | refine splIn ?_ ?_ | refine splD ?_ ?_ | refine splE ?_ ?_ | refine splNE ?_ ?_) <;> intro hc <;> first | (exfalso; omega) | (exfalso; dsimp only at hc; omega) | skip)
   | ((with_reducible show CallEv _ _ 70 _ _ _ _ _); refine callE (k := 70) (fun β w' hbw => hv _) ?_)
 all_goals exact ⟨fun β => rfl, fun w' h => h⟩
theorem in139_ok (r1 r2 : Int) (w : World) : Calls Try.prog 139 #[.agg #[iv r1, iv r2]] w fun e w' => e = .returned (.bool (rgB (-60) 60 (r1, r2))) ∧ Below w.heap.size w w' := by
 refine calls_val env mixed Try.func139 has139 Try.ntmps139 [.agg #[iv r1, iv r2]] (by simp) ?_
 have hv := fun w' => in_ok r1 r2 (-60) 60 w'
 repeat'
  conv => whnf
  first
   | refine zA ?_ | refine zB ?_ | refine zC ?_ | refine zD ?_ | refine zE ?_ | refine zF ?_ | refine zG ?_ | refine zH ?_ | refine zJ ?_ | refine zI ?_ | refine splT ?_ | refine splF ?_ | refine splNot ?_
   | ((first | refine splIn ?_ ?_ | refine splD ?_ ?_ | refine splE ?_ ?_ | refine splNE ?_ ?_) <;> intro hc <;> first | (exfalso; omega) | (exfalso; dsimp only at hc; omega) | skip)
   | ((with_reducible show CallEv _ _ 137 _ _ _ _ _); refine callE (k := 137) (fun β w' hbw => hv _) ?_)
 all_goals exact ⟨fun β => rfl, fun w' h => h⟩
theorem nil_ok (n : Int) (w : World) : Calls Try.prog 133 #[iv n] w fun e w' => e = .returned (.bool (decide (n = 0))) ∧ Below w.heap.size w w' := by
 refine calls_val env mixed Try.func133 has133 Try.ntmps133 [iv n] (by simp) ?_
 repeat'
  conv => whnf
  first
   | refine zA ?_ | refine zB ?_ | refine zC ?_ | refine zD ?_ | refine zE ?_ | refine zF ?_ | refine zG ?_ | refine zH ?_ | refine zJ ?_ | refine zI ?_ | refine splT ?_ | refine splF ?_ | refine splNot ?_
   | ((first | refine splIn ?_ ?_ | refine splD ?_ ?_ | refine splE ?_ ?_ | refine splNE ?_ ?_) <;> intro hc <;> first | (exfalso; omega) | (exfalso; dsimp only at hc; omega) | skip)
 all_goals first | (exfalso; omega) | exact ⟨fun β => congrArg Value.bool (by first | (simp [*]; done) | rfl), fun w' h => h⟩
theorem leg_ok (a b : Int) (w : World) : Calls Try.prog 96 #[.agg #[iv a, iv b]] w fun e w' => e = .returned (.bool (inB a 0 200 && inB b 0 1000000)) ∧ Below w.heap.size w w' := by
 refine calls_val env mixed Try.func96 has96 Try.ntmps96 [.agg #[iv a, iv b]] (by simp) ?_
 repeat'
  conv => whnf
  first
   | refine zA ?_ | refine zB ?_ | refine zC ?_ | refine zD ?_ | refine zE ?_ | refine zF ?_ | refine zG ?_ | refine zH ?_ | refine zJ ?_ | refine zI ?_ | refine splT ?_ | refine splF ?_ | refine splNot ?_
   | ((first | refine splIn ?_ ?_ | refine splD ?_ ?_ | refine splE ?_ ?_ | refine splNE ?_ ?_) <;> intro hc <;> first | (exfalso; omega) | (exfalso; dsimp only at hc; omega) | skip)
   | ((with_reducible show CallEv _ _ 70 _ _ _ _ _); refine callE (k := 70) (fun β w' hbw => within_ok _ _ _ _) ?_)
 all_goals exact ⟨fun β => congrArg Value.bool (by simp [inB, *]), fun w' h => h⟩
set_option maxRecDepth 100000 in
theorem all139_ok (L : List (Int × Int)) (o : Option Addr) (c : Nat) (w : World) (hrd : Rd 2 prF (.slice o L.length c) L w) (hl : L.length ≤ 1000000) :
 Calls Try.prog 138 #[.slice o L.length c, .func (.func 139) #[] #[]] w fun e w' => e = .returned (.bool (L.all (rgB (-60) 60))) ∧ Below w.heap.size w w' := by
 refine calls_val env mixed Try.func138 has138 Try.ntmps138 [.slice o L.length c, .func (.func 139) #[] #[]] (by simp) ?_
 repeat'
  conv => whnf
  first
   | refine zA ?_ | refine zB ?_ | refine zC ?_ | refine zD ?_ | refine zE ?_ | refine zF ?_ | refine zG ?_ | refine zH ?_ | refine zJ ?_ | refine zI ?_ | refine splT ?_ | refine splF ?_ | refine splNot ?_
   | ((first | refine splIn ?_ ?_ | refine splD ?_ ?_ | refine splE ?_ ?_ | refine splNE ?_ ?_) <;> intro hc <;> first | (exfalso; omega) | (exfalso; dsimp only at hc; omega) | skip)
   | ((with_reducible show CallEv _ _ 106 _ _ _ _ _); refine callI env mixed 1000 [] Try.func106 has106 Try.ntmps106 (Nat.le_of_ble_eq_true rfl) rfl rfl rfl ?_)
   | ((with_reducible show CallEv _ _ 143 _ _ _ _ _); refine callI env mixed 2000 [] Try.func143 has143 Try.ntmps143 (Nat.le_of_ble_eq_true rfl) rfl rfl rfl ?_)
 refine loopE (fun k : Nat => [(0, .v (.slice o L.length c)), (1, .fn (.func 164) [.ptr 0 0]), (7, .v (iv L.length)), (8, .v (iv k))]) (fun _ => [(0, .cells [.v (.func (.func 139) #[] #[])] 176)]) (fun k => k ≤ L.length ∧ (L.take k).all (rgB (-60) 60) = true) (fun k => L.length - k) 0 ⟨Nat.zero_le _, rfl⟩ ⟨rfl, rfl, rfl, rfl, trivial⟩ ⟨rfl, trivial⟩ (fun _ => ⟨rfl, rfl⟩) ?_
 intro k ⟨hk, hall⟩
 rcases Nat.lt_or_ge k L.length with hkl | hkl
 · obtain ⟨⟨r1, r2⟩, hb⟩ : ∃ b, L[k]? = some b := ⟨_, List.getElem?_eq_getElem hkl⟩
   obtain ⟨_, ad, rfl, _⟩ := hrd.ptr (by omega)
   have ht : (L.take (k + 1)).all (rgB (-60) 60) = (rgB (-60) 60) (r1, r2) := by rw [List.take_add_one, hb]; simp [hall]
   have e0 := fun (w' : World) hw' => rd_ati (hrd.below (w' := w') hw') hb
   have hv := fun w' => in139_ok r1 r2 w'
   obtain ⟨vb, hvb⟩ : ∃ vb, (rgB (-60) 60) (r1, r2) = vb := ⟨_, rfl⟩
   have hv' : ∀ w', Calls Try.prog 139 #[.agg #[iv r1, iv r2]] w' fun e w2 => e = .returned (.bool vb) ∧ Below w'.heap.size w' w2 := fun w' => by rw [← hvb]; exact hv w'
   clear hv
   cases vb with
   | true =>
    rw [hvb] at ht
    repeat'
     conv => whnf
     first
      | refine zA ?_ | refine zB ?_ | refine zC ?_ | refine zD ?_ | refine zE ?_ | refine zF ?_ | refine zG ?_ | refine zH ?_ | refine zJ ?_ | refine zI ?_ | refine splT ?_ | refine splF ?_ | refine splNot ?_
      | ((first | refine splIn ?_ ?_ | refine splD ?_ ?_ | refine splE ?_ ?_ | refine splNE ?_ ?_) <;> intro hc <;> first | (exfalso; omega) | (exfalso; dsimp only at hc; omega) | skip)
      | refine Exists.intro (α := List Value) [iv r1, iv r2] ⟨⟨rfl, fun w' hw' => e0 w' hw'⟩, ?_⟩
      | ((with_reducible show CallEv _ _ 164 _ _ _ _ _); refine callI env mixed 3000 [0,1,5,7,8] Try.func164 has164 Try.ntmps164 (Nat.le_of_ble_eq_true rfl) rfl rfl rfl ?_)
      | ((with_reducible show CallEv _ _ 139 _ _ _ _ _); refine callE (k := 139) (fun β w' hbw => hv' _) ?_)
    exact ⟨k + 1, ⟨by omega, ht⟩, by omega, Ent.weak rfl ⟨rfl, rfl, rfl, rfl, trivial⟩ ⟨rfl, trivial⟩ fun _ h => h⟩
   | false =>
    have hno : L.all (rgB (-60) 60) = false := by
     rw [List.all_eq_false]
     exact ⟨_, List.mem_of_getElem? hb, fun hc => absurd (hvb.symm.trans hc) (by decide)⟩
    rw [hno]
    repeat'
     conv => whnf
     first
      | refine zA ?_ | refine zB ?_ | refine zC ?_ | refine zD ?_ | refine zE ?_ | refine zF ?_ | refine zG ?_ | refine zH ?_ | refine zJ ?_ | refine zI ?_ | refine splT ?_ | refine splF ?_ | refine splNot ?_
      | ((first | refine splIn ?_ ?_ | refine splD ?_ ?_ | refine splE ?_ ?_ | refine splNE ?_ ?_) <;> intro hc <;> first | (exfalso; omega) | (exfalso; dsimp only at hc; omega) | skip)
      | refine Exists.intro (α := List Value) [iv r1, iv r2] ⟨⟨rfl, fun w' hw' => e0 w' hw'⟩, ?_⟩
      | ((with_reducible show CallEv _ _ 164 _ _ _ _ _); refine callI env mixed 3000 [0,1,5,7,8] Try.func164 has164 Try.ntmps164 (Nat.le_of_ble_eq_true rfl) rfl rfl rfl ?_)
      | ((with_reducible show CallEv _ _ 139 _ _ _ _ _); refine callE (k := 139) (fun β w' hbw => hv' _) ?_)
    all_goals first | exact ⟨fun β => rfl, fun w' h => h⟩ | (exfalso; omega)
 · rw [List.take_of_length_le hkl] at hall
   rw [hall]
   repeat'
    conv => whnf
    first
     | refine zA ?_ | refine zB ?_ | refine zC ?_ | refine zD ?_ | refine zE ?_ | refine zF ?_ | refine zG ?_ | refine zH ?_ | refine zJ ?_ | refine zI ?_ | refine splT ?_ | refine splF ?_ | refine splNot ?_
     | ((first | refine splIn ?_ ?_ | refine splD ?_ ?_ | refine splE ?_ ?_ | refine splNE ?_ ?_) <;> intro hc <;> first | (exfalso; omega) | (exfalso; dsimp only at hc; omega) | skip)
   all_goals first | exact ⟨fun β => rfl, fun w' h => h⟩ | (exfalso; omega)
set_option maxRecDepth 100000 in
theorem all133_ok (L : List (Int)) (o : Option Addr) (c : Nat) (w : World) (hrd : Rd 1 iF (.slice o L.length c) L w) (hl : L.length ≤ 1000000) :
 Calls Try.prog 79 #[.slice o L.length c, .func (.func 133) #[] #[]] w fun e w' => e = .returned (.bool (L.all (fun n : Int => decide (n = 0)))) ∧ Below w.heap.size w w' := by
 refine calls_val env mixed Try.func79 has79 Try.ntmps79 [.slice o L.length c, .func (.func 133) #[] #[]] (by simp) ?_
 repeat'
  conv => whnf
  first
   | refine zA ?_ | refine zB ?_ | refine zC ?_ | refine zD ?_ | refine zE ?_ | refine zF ?_ | refine zG ?_ | refine zH ?_ | refine zJ ?_ | refine zI ?_ | refine splT ?_ | refine splF ?_ | refine splNot ?_
   | ((first | refine splIn ?_ ?_ | refine splD ?_ ?_ | refine splE ?_ ?_ | refine splNE ?_ ?_) <;> intro hc <;> first | (exfalso; omega) | (exfalso; dsimp only at hc; omega) | skip)
   | ((with_reducible show CallEv _ _ 112 _ _ _ _ _); refine callI env mixed 1000 [] Try.func112 has112 Try.ntmps112 (Nat.le_of_ble_eq_true rfl) rfl rfl rfl ?_)
   | ((with_reducible show CallEv _ _ 156 _ _ _ _ _); refine callI env mixed 2000 [] Try.func156 has156 Try.ntmps156 (Nat.le_of_ble_eq_true rfl) rfl rfl rfl ?_)
 refine loopE (fun k : Nat => [(0, .v (.slice o L.length c)), (1, .fn (.func 113) [.ptr 0 0]), (7, .v (iv L.length)), (8, .v (iv k))]) (fun _ => [(0, .cells [.v (.func (.func 133) #[] #[])] 135)]) (fun k => k ≤ L.length ∧ (L.take k).all (fun n : Int => decide (n = 0)) = true) (fun k => L.length - k) 0 ⟨Nat.zero_le _, rfl⟩ ⟨rfl, rfl, rfl, rfl, trivial⟩ ⟨rfl, trivial⟩ (fun _ => ⟨rfl, rfl⟩) ?_
 intro k ⟨hk, hall⟩
 rcases Nat.lt_or_ge k L.length with hkl | hkl
 · obtain ⟨n, hb⟩ : ∃ b, L[k]? = some b := ⟨_, List.getElem?_eq_getElem hkl⟩
   obtain ⟨_, ad, rfl, _⟩ := hrd.ptr (by omega)
   have ht : (L.take (k + 1)).all (fun n : Int => decide (n = 0)) = (fun n : Int => decide (n = 0)) n := by rw [List.take_add_one, hb]; simp [hall]
   have e0 := fun (w' : World) hw' => rd_ati (hrd.below (w' := w') hw') hb
   have hv := fun w' => nil_ok n w'
   obtain ⟨vb, hvb⟩ : ∃ vb, (fun n : Int => decide (n = 0)) n = vb := ⟨_, rfl⟩
   have hv' : ∀ w', Calls Try.prog 133 #[iv n] w' fun e w2 => e = .returned (.bool vb) ∧ Below w'.heap.size w' w2 := fun w' => by rw [← hvb]; exact hv w'
   clear hv
   cases vb with
   | true =>
    rw [hvb] at ht
    repeat'
     conv => whnf
     first
      | refine zA ?_ | refine zB ?_ | refine zC ?_ | refine zD ?_ | refine zE ?_ | refine zF ?_ | refine zG ?_ | refine zH ?_ | refine zJ ?_ | refine zI ?_ | refine splT ?_ | refine splF ?_ | refine splNot ?_
      | ((first | refine splIn ?_ ?_ | refine splD ?_ ?_ | refine splE ?_ ?_ | refine splNE ?_ ?_) <;> intro hc <;> first | (exfalso; omega) | (exfalso; dsimp only at hc; omega) | skip)
      | refine Exists.intro (α := List Value) [iv n] ⟨⟨rfl, fun w' hw' => e0 w' hw'⟩, ?_⟩
      | ((with_reducible show CallEv _ _ 113 _ _ _ _ _); refine callI env mixed 3000 [0,1,5,7,8] Try.func113 has113 Try.ntmps113 (Nat.le_of_ble_eq_true rfl) rfl rfl rfl ?_)
      | ((with_reducible show CallEv _ _ 133 _ _ _ _ _); refine callE (k := 133) (fun β w' hbw => hv' _) ?_)
    exact ⟨k + 1, ⟨by omega, ht⟩, by omega, Ent.weak rfl ⟨rfl, rfl, rfl, rfl, trivial⟩ ⟨rfl, trivial⟩ fun _ h => h⟩
   | false =>
    have hno : L.all (fun n : Int => decide (n = 0)) = false := by
     rw [List.all_eq_false]
     exact ⟨_, List.mem_of_getElem? hb, fun hc => absurd (hvb.symm.trans hc) (by decide)⟩
    rw [hno]
    repeat'
     conv => whnf
     first
      | refine zA ?_ | refine zB ?_ | refine zC ?_ | refine zD ?_ | refine zE ?_ | refine zF ?_ | refine zG ?_ | refine zH ?_ | refine zJ ?_ | refine zI ?_ | refine splT ?_ | refine splF ?_ | refine splNot ?_
      | ((first | refine splIn ?_ ?_ | refine splD ?_ ?_ | refine splE ?_ ?_ | refine splNE ?_ ?_) <;> intro hc <;> first | (exfalso; omega) | (exfalso; dsimp only at hc; omega) | skip)
      | refine Exists.intro (α := List Value) [iv n] ⟨⟨rfl, fun w' hw' => e0 w' hw'⟩, ?_⟩
      | ((with_reducible show CallEv _ _ 113 _ _ _ _ _); refine callI env mixed 3000 [0,1,5,7,8] Try.func113 has113 Try.ntmps113 (Nat.le_of_ble_eq_true rfl) rfl rfl rfl ?_)
      | ((with_reducible show CallEv _ _ 133 _ _ _ _ _); refine callE (k := 133) (fun β w' hbw => hv' _) ?_)
    all_goals first | exact ⟨fun β => rfl, fun w' h => h⟩ | (exfalso; omega)
 · rw [List.take_of_length_le hkl] at hall
   rw [hall]
   repeat'
    conv => whnf
    first
     | refine zA ?_ | refine zB ?_ | refine zC ?_ | refine zD ?_ | refine zE ?_ | refine zF ?_ | refine zG ?_ | refine zH ?_ | refine zJ ?_ | refine zI ?_ | refine splT ?_ | refine splF ?_ | refine splNot ?_
     | ((first | refine splIn ?_ ?_ | refine splD ?_ ?_ | refine splE ?_ ?_ | refine splNE ?_ ?_) <;> intro hc <;> first | (exfalso; omega) | (exfalso; dsimp only at hc; omega) | skip)
   all_goals first | exact ⟨fun β => rfl, fun w' h => h⟩ | (exfalso; omega)
set_option maxRecDepth 100000 in
theorem all96_ok (L : List (Int × Int)) (o : Option Addr) (c : Nat) (w : World) (hrd : Rd 2 prF (.slice o L.length c) L w) (hl : L.length ≤ 1000000) :
 Calls Try.prog 95 #[.slice o L.length c, .func (.func 96) #[] #[]] w fun e w' => e = .returned (.bool (L.all (fun x : Int × Int => inB x.1 0 200 && inB x.2 0 1000000))) ∧ Below w.heap.size w w' := by
 refine calls_val env mixed Try.func95 has95 Try.ntmps95 [.slice o L.length c, .func (.func 96) #[] #[]] (by simp) ?_
 repeat'
  conv => whnf
  first
   | refine zA ?_ | refine zB ?_ | refine zC ?_ | refine zD ?_ | refine zE ?_ | refine zF ?_ | refine zG ?_ | refine zH ?_ | refine zJ ?_ | refine zI ?_ | refine splT ?_ | refine splF ?_ | refine splNot ?_
   | ((first | refine splIn ?_ ?_ | refine splD ?_ ?_ | refine splE ?_ ?_ | refine splNE ?_ ?_) <;> intro hc <;> first | (exfalso; omega) | (exfalso; dsimp only at hc; omega) | skip)
   | ((with_reducible show CallEv _ _ 140 _ _ _ _ _); refine callI env mixed 1000 [] Try.func140 has140 Try.ntmps140 (Nat.le_of_ble_eq_true rfl) rfl rfl rfl ?_)
   | ((with_reducible show CallEv _ _ 165 _ _ _ _ _); refine callI env mixed 2000 [] Try.func165 has165 Try.ntmps165 (Nat.le_of_ble_eq_true rfl) rfl rfl rfl ?_)
 refine loopE (fun k : Nat => [(0, .v (.slice o L.length c)), (1, .fn (.func 141) [.ptr 0 0]), (7, .v (iv L.length)), (8, .v (iv k))]) (fun _ => [(0, .cells [.v (.func (.func 96) #[] #[])] 167)]) (fun k => k ≤ L.length ∧ (L.take k).all (fun x : Int × Int => inB x.1 0 200 && inB x.2 0 1000000) = true) (fun k => L.length - k) 0 ⟨Nat.zero_le _, rfl⟩ ⟨rfl, rfl, rfl, rfl, trivial⟩ ⟨rfl, trivial⟩ (fun _ => ⟨rfl, rfl⟩) ?_
 intro k ⟨hk, hall⟩
 rcases Nat.lt_or_ge k L.length with hkl | hkl
 · obtain ⟨⟨r1, r2⟩, hb⟩ : ∃ b, L[k]? = some b := ⟨_, List.getElem?_eq_getElem hkl⟩
   obtain ⟨_, ad, rfl, _⟩ := hrd.ptr (by omega)
   have ht : (L.take (k + 1)).all (fun x : Int × Int => inB x.1 0 200 && inB x.2 0 1000000) = (fun x : Int × Int => inB x.1 0 200 && inB x.2 0 1000000) (r1, r2) := by rw [List.take_add_one, hb]; simp [hall]
   have e0 := fun (w' : World) hw' => rd_ati (hrd.below (w' := w') hw') hb
   have hv := fun w' => leg_ok r1 r2 w'
   obtain ⟨vb, hvb⟩ : ∃ vb, (fun x : Int × Int => inB x.1 0 200 && inB x.2 0 1000000) (r1, r2) = vb := ⟨_, rfl⟩
   have hv' : ∀ w', Calls Try.prog 96 #[.agg #[iv r1, iv r2]] w' fun e w2 => e = .returned (.bool vb) ∧ Below w'.heap.size w' w2 := fun w' => by rw [← hvb]; exact hv w'
   clear hv
   cases vb with
   | true =>
    rw [hvb] at ht
    repeat'
     conv => whnf
     first
      | refine zA ?_ | refine zB ?_ | refine zC ?_ | refine zD ?_ | refine zE ?_ | refine zF ?_ | refine zG ?_ | refine zH ?_ | refine zJ ?_ | refine zI ?_ | refine splT ?_ | refine splF ?_ | refine splNot ?_
      | ((first | refine splIn ?_ ?_ | refine splD ?_ ?_ | refine splE ?_ ?_ | refine splNE ?_ ?_) <;> intro hc <;> first | (exfalso; omega) | (exfalso; dsimp only at hc; omega) | skip)
      | refine Exists.intro (α := List Value) [iv r1, iv r2] ⟨⟨rfl, fun w' hw' => e0 w' hw'⟩, ?_⟩
      | ((with_reducible show CallEv _ _ 141 _ _ _ _ _); refine callI env mixed 3000 [0,1,5,7,8] Try.func141 has141 Try.ntmps141 (Nat.le_of_ble_eq_true rfl) rfl rfl rfl ?_)
      | ((with_reducible show CallEv _ _ 96 _ _ _ _ _); refine callE (k := 96) (fun β w' hbw => hv' _) ?_)
    exact ⟨k + 1, ⟨by omega, ht⟩, by omega, Ent.weak rfl ⟨rfl, rfl, rfl, rfl, trivial⟩ ⟨rfl, trivial⟩ fun _ h => h⟩
   | false =>
    have hno : L.all (fun x : Int × Int => inB x.1 0 200 && inB x.2 0 1000000) = false := by
     rw [List.all_eq_false]
     exact ⟨_, List.mem_of_getElem? hb, fun hc => absurd (hvb.symm.trans hc) (by decide)⟩
    rw [hno]
    repeat'
     conv => whnf
     first
      | refine zA ?_ | refine zB ?_ | refine zC ?_ | refine zD ?_ | refine zE ?_ | refine zF ?_ | refine zG ?_ | refine zH ?_ | refine zJ ?_ | refine zI ?_ | refine splT ?_ | refine splF ?_ | refine splNot ?_
      | ((first | refine splIn ?_ ?_ | refine splD ?_ ?_ | refine splE ?_ ?_ | refine splNE ?_ ?_) <;> intro hc <;> first | (exfalso; omega) | (exfalso; dsimp only at hc; omega) | skip)
      | refine Exists.intro (α := List Value) [iv r1, iv r2] ⟨⟨rfl, fun w' hw' => e0 w' hw'⟩, ?_⟩
      | ((with_reducible show CallEv _ _ 141 _ _ _ _ _); refine callI env mixed 3000 [0,1,5,7,8] Try.func141 has141 Try.ntmps141 (Nat.le_of_ble_eq_true rfl) rfl rfl rfl ?_)
      | ((with_reducible show CallEv _ _ 96 _ _ _ _ _); refine callE (k := 96) (fun β w' hbw => hv' _) ?_)
    all_goals first | exact ⟨fun β => rfl, fun w' h => h⟩ | (exfalso; omega)
 · rw [List.take_of_length_le hkl] at hall
   rw [hall]
   repeat'
    conv => whnf
    first
     | refine zA ?_ | refine zB ?_ | refine zC ?_ | refine zD ?_ | refine zE ?_ | refine zF ?_ | refine zG ?_ | refine zH ?_ | refine zJ ?_ | refine zI ?_ | refine splT ?_ | refine splF ?_ | refine splNot ?_
     | ((first | refine splIn ?_ ?_ | refine splD ?_ ?_ | refine splE ?_ ?_ | refine splNE ?_ ?_) <;> intro hc <;> first | (exfalso; omega) | (exfalso; dsimp only at hc; omega) | skip)
   all_goals first | exact ⟨fun β => rfl, fun w' h => h⟩ | (exfalso; omega)
end Go.Proofs.Ythfabodamhdhaaa
namespace Go.Proofs.Ythfabodamhdhaaa.Tx
open Go Go.RowKit
set_option linter.unusedSimpArgs false
set_option linter.unusedVariables false
end Go.Proofs.Ythfabodamhdhaaa.Tx
namespace Go.Proofs.Ythfabodamhdhaaa
open Go Tx Go.RowKit
set_option linter.unusedSimpArgs false
set_option linter.unusedVariables false
theorem part3 (cs : List Value) (o : Nat) (v : Value) (w : World) (h : cs[o]? = some v) : (part 3 cs.toArray o).run Try.prog w = .ok v w :=
 run_part (β := fun _ => 0) (l := [.v v]) (s := .v v) tok3 (by
  obtain ⟨h1, h2⟩ := List.getElem?_eq_some_iff.1 h
  show List.take 1 (List.drop o cs) = [v]
  rw [List.drop_eq_getElem_cons h1, h2]; rfl) rfl (.inr ⟨rfl, rfl⟩)
theorem under5 : Try.prog.underlying 5 = some (.int .u8) := by kernel_rfl
theorem eqIn3 (d : Nat) (a b : Int) (w : World) : (Op.equalIn (d + 1) 3 (iv a) (iv b)).run Try.prog w = .ok (a == b) w := equalIn_int under3 a b
theorem names55 : namesB Try.prog 55 = true := by kernel_rfl
theorem names60 : namesB Try.prog 60 = true := by kernel_rfl
theorem guard55 : Try.prog.eqGuardType Try.prog.depth 55 = false := by kernel_rfl
theorem guard60 : Try.prog.eqGuardType Try.prog.depth 60 = false := by kernel_rfl
theorem eqIn55 (a b c e : Int) (w : World) : (Op.equalIn 10000 55 (.agg #[iv a, iv b]) (.agg #[iv c, iv e])).run Try.prog w = .ok (a == c && b == e) w :=
 equalIn_two tok55 rfl (by decide) names55 (part3 _ 0 _ w rfl) (part3 _ 1 _ w rfl) (part3 _ 0 _ w rfl) (part3 _ 1 _ w rfl) (eqIn3 9998 _ _ w) (eqIn3 9998 _ _ w)
theorem eqIn60 (a b c e : Int) (w : World) : (Op.equalIn 10000 60 (.agg #[iv a, iv b]) (.agg #[iv c, iv e])).run Try.prog w = .ok (a == c && b == e) w :=
 equalIn_two tok60 rfl (by decide) names60 (part3 _ 0 _ w rfl) (part3 _ 1 _ w rfl) (part3 _ 0 _ w rfl) (part3 _ 1 _ w rfl) (eqIn3 9998 _ _ w) (eqIn3 9998 _ _ w)
theorem eqlE55 {a b c e : Int} {q : Bool} {x y : Operand} {K : Value → Prop} (hq : (a == c && b == e) = q) (h : K (.bool q)) : ∃ v, (∀ _ : Nat → Nat, RunIs Try.prog (do eqGuard .eql 55 x y (.agg #[iv a, iv b]) (.agg #[iv c, iv e]); binOp .eql 55 (.agg #[iv a, iv b]) (.agg #[iv c, iv e])) v) ∧ K v :=
 ⟨_, fun _ => runIs_eql guard55 fun w => eqIn55 _ _ _ _ w, by rw [hq]; exact h⟩
theorem neqE60 {a b c e : Int} {q : Bool} {x y : Operand} {K : Value → Prop} (hq : (!(a == c && b == e)) = q) (h : K (.bool q)) : ∃ v, (∀ _ : Nat → Nat, RunIs Try.prog (do eqGuard .neq 60 x y (.agg #[iv a, iv b]) (.agg #[iv c, iv e]); binOp .neq 60 (.agg #[iv a, iv b]) (.agg #[iv c, iv e])) v) ∧ K v :=
 ⟨_, fun _ => runIs_neq guard60 fun w => eqIn60 _ _ _ _ w, by rw [hq]; exact h⟩
end Go.Proofs.Ythfabodamhdhaaa
namespace Go.Proofs.Ythfabodamhdhaaa
open Go Tx Go.RowKit
set_option linter.unusedSimpArgs false
set_option linter.unusedVariables false
def lsR (O : List (Int × Int)) : Nat → Int
 | 0 => -1
 | k + 1 => ((O[k]?).getD (0, 0)).2
theorem lsR_succ {O : List (Int × Int)} {k : Nat} {a b : Int} (h : O[k]? = some (a, b)) : lsR O (k + 1) = b := by simp [lsR, h]
theorem apB_drop {days : Int} {O : List (Int × Int)} {k : Nat} {a b : Int} (h : O[k]? = some (a, b)) : apB days (lsR O k) (O.drop k) = (rgB (lsR O k + 1) (days - 1) (a, b) && apB days (lsR O (k + 1)) (O.drop (k + 1))) := by
 obtain ⟨hk, e⟩ := List.getElem?_eq_some_iff.1 h
 rw [List.drop_eq_getElem_cons hk, e, lsR_succ h]
 rfl
set_option maxHeartbeats 2000000 in
set_option maxRecDepth 100000 in
theorem town_ok (t : Tn) (days : Int) (w : World) (h : TnIn t w) (hd : 1 ≤ days ∧ days ≤ 60) : Calls Try.prog 94 #[.agg t.cs.toArray, iv days] w fun e w' => e = .returned (.bool (twB days t.d)) ∧ Below w.heap.size w w' := by
 obtain ⟨oo, oc, ro, rc, O, s1, s2, pay, lot, rent, R, cold, cut⟩ := t
 obtain ⟨hO, hR, hol, hrl⟩ := h
 dsimp only at hO hR hol hrl ⊢
 refine calls_val env mixed Try.func94 has94 Try.ntmps94 [.agg #[.slice oo O.length oc, iv s1, iv s2, iv pay, iv lot, iv rent, .slice ro R.length rc, iv cold, iv cut], iv days] (by simp) ?_
 have hall := fun w' hb => all139_ok R ro rc w' (hR.below hb) hrl
 have h137 := fun w' => in_ok s1 s2 1 10 w'
 obtain ⟨vr, hvr⟩ : ∃ v, rgB 1 10 (s1, s2) = v := ⟨_, rfl⟩
 obtain ⟨va, hva⟩ : ∃ v, R.all (rgB (-60) 60) = v := ⟨_, rfl⟩
 rw [hvr] at h137
 rw [hva] at hall
 have hT : twB days ⟨O, s1, s2, pay, lot, rent, R, cold, cut⟩ = (inB O.length 1 3 && (apB days (-1) O && (vr && (inB pay 0 1000000 && (inB lot 0 100000 && (inB rent 0 1000000 &&
  (decide (R.length ≤ 3) && (va && (inB cold 0 60 && inB cut 0 1000))))))))) := by rw [← hvr, ← hva]; rfl
 rw [hT]
 clear hT
 obtain ⟨vo, hvo⟩ : ∃ v, inB (O.length : Int) 1 3 = v := ⟨_, rfl⟩
 have h70o := fun w' => within_ok O.length 1 3 w'
 rw [hvo] at h70o ⊢
 cases vo with
 | false =>
  repeat'
   conv => whnf
   first
    | refine zA ?_ | refine zB ?_ | refine zC ?_ | refine zD ?_ | refine zE ?_ | refine zF ?_ | refine zG ?_ | refine zH ?_ | refine zJ ?_ | refine zI ?_ | refine splT ?_ | refine splF ?_ | refine splNot ?_
    | ((first | refine splIn ?_ ?_ | refine splD ?_ ?_ | refine splE ?_ ?_ | refine splNE ?_ ?_) <;> intro hc <;> first | (exfalso; omega) | (exfalso; dsimp only at hc; omega) | skip)
    | ((with_reducible show CallEv _ _ 70 _ _ _ _ _); refine callE (k := 70) (fun β w' hbw => h70o _) ?_)
  all_goals exact ⟨fun β => rfl, fun w' h => h⟩
 | true =>
  generalize hW : Value.bool _ = W
  have hW' : W = Value.bool (apB days (lsR O 0) (O.drop 0) && (vr && (inB pay 0 1000000 && (inB lot 0 100000 && (inB rent 0 1000000 && (decide (R.length ≤ 3) && (va && (inB cold 0 60 && inB cut 0 1000)))))))) := by rw [← hW]; rfl
  clear hW
  repeat'
   conv => whnf
   first
    | refine zA ?_ | refine zB ?_ | refine zC ?_ | refine zD ?_ | refine zE ?_ | refine zF ?_ | refine zG ?_ | refine zH ?_ | refine zJ ?_ | refine zI ?_ | refine splT ?_ | refine splF ?_ | refine splNot ?_
    | ((first | refine splIn ?_ ?_ | refine splD ?_ ?_ | refine splE ?_ ?_ | refine splNE ?_ ?_) <;> intro hc <;> first | (exfalso; omega) | (exfalso; dsimp only at hc; omega) | skip)
    | ((with_reducible show CallEv _ _ 70 _ _ _ _ _); refine callE (k := 70) (fun β w' hbw => h70o _) ?_)
    | ((with_reducible show CallEv _ _ 138 _ _ _ _ _); refine callI env mixed 1000 [2, 12] Try.func138 has138 Try.ntmps138 (Nat.le_of_ble_eq_true rfl) rfl rfl rfl ?_)
    | ((with_reducible show CallEv _ _ 106 _ _ _ _ _); refine callI env mixed 2000 [] Try.func106 has106 Try.ntmps106 (Nat.le_of_ble_eq_true rfl) rfl rfl rfl ?_)
    | ((with_reducible show CallEv _ _ 143 _ _ _ _ _); refine callI env mixed 3000 [] Try.func143 has143 Try.ntmps143 (Nat.le_of_ble_eq_true rfl) rfl rfl rfl ?_)
  refine loopE (fun k : Nat => [(0, .v (.slice oo O.length oc)), (1, .fn (.func 164) [.ptr 3 0]), (7, .v (iv O.length)), (8, .v (iv k))]) (fun k => [(3, .cells [.fn (.func 136) [.ptr 2 0, .ptr 1 0]] 176), (2, .cells [.v (iv (lsR O k))] 3), (1, .cells [.v (iv days)] 3), (0, .cells [.v (.slice oo O.length oc), .v (iv s1), .v (iv s2), .v (iv pay), .v (iv lot), .v (iv rent), .v (.slice ro R.length rc), .v (iv cold), .v (iv cut)] 57)])
   (fun k => (k ≤ O.length ∧ -1 ≤ lsR O k ∧ lsR O k ≤ 60) ∧ W = Value.bool (apB days (lsR O k) (O.drop k) && (vr && (inB pay 0 1000000 && (inB lot 0 100000 && (inB rent 0 1000000 && (decide (R.length ≤ 3) && (va && (inB cold 0 60 && inB cut 0 1000))))))))) (fun k => O.length - k) 0 ⟨⟨Nat.zero_le _, by show (-1 : Int) ≤ -1; decide, by show (-1 : Int) ≤ 60; decide⟩, hW'⟩ ⟨rfl, rfl, rfl, rfl, trivial⟩ ⟨rfl, rfl, rfl, rfl, trivial⟩ (fun _ => ⟨rfl, rfl⟩) ?_
  clear hW'
  intro k ⟨⟨hk, hk1, hk2⟩, hW⟩
  rcases Nat.lt_or_ge k O.length with hkl | hkl
  · obtain ⟨⟨r1, r2⟩, hx⟩ : ∃ b, O[k]? = some b := ⟨_, List.getElem?_eq_getElem hkl⟩
    obtain ⟨_, ad, rfl, _⟩ := hO.ptr (by omega)
    have e0 := fun (w' : World) hw' => rd_ati (hO.below (w' := w') hw') hx
    rw [apB_drop hx] at hW
    have hls := lsR_succ hx
    have hv := fun w' => in_ok r1 r2 (lsR O k + 1) (days - 1) w'
    cases hg : rgB (lsR O k + 1) (days - 1) (r1, r2) with
    | true =>
     rw [hg] at hv hW
     rw [Bool.true_and] at hW
     have hgb := hg
     simp only [rgB, Bool.and_eq_true, decide_eq_true_eq] at hgb
     generalize hlk : lsR O k = lk at *
     repeat'
      conv => whnf
      first
       | refine zA ?_ | refine zB ?_ | refine zC ?_ | refine zD ?_ | refine zE ?_ | refine zF ?_ | refine zG ?_ | refine zH ?_ | refine zJ ?_ | refine zI ?_ | refine splT ?_ | refine splF ?_ | refine splNot ?_
       | ((first | refine splIn ?_ ?_ | refine splD ?_ ?_ | refine splE ?_ ?_ | refine splNE ?_ ?_) <;> intro hc <;> first | (exfalso; omega) | (exfalso; dsimp only at hc; omega) | skip)
       | refine Exists.intro (α := List Value) [iv r1, iv r2] ⟨⟨rfl, fun w' hw' => e0 w' hw'⟩, ?_⟩
       | ((with_reducible show CallEv _ _ 164 _ _ _ _ _); refine callI env mixed 4000 [0,1,5,7,8] Try.func164 has164 Try.ntmps164 (Nat.le_of_ble_eq_true rfl) rfl rfl rfl ?_)
       | ((with_reducible show CallEv _ _ 136 _ _ _ _ _); refine callI env mixed 5000 [] Try.func136 has136 Try.ntmps136 (Nat.le_of_ble_eq_true rfl) rfl rfl rfl ?_)
       | ((with_reducible show CallEv _ _ 137 _ _ _ _ _); refine callE (k := 137) (fun β w' hbw => hv _) ?_)
     all_goals first | (exfalso; omega) | exact ⟨k + 1, ⟨⟨by omega, by omega, by omega⟩, hW⟩, by omega, Ent.weak rfl ⟨rfl, rfl, rfl, rfl, trivial⟩ ⟨rfl, by rw [hls]; rfl, rfl, rfl, trivial⟩ fun _ h => h⟩
    | false =>
     rw [hg] at hv hW
     rw [Bool.false_and, Bool.false_and] at hW
     subst hW
     generalize hlk : lsR O k = lk at *
     repeat'
      conv => whnf
      first
       | refine zA ?_ | refine zB ?_ | refine zC ?_ | refine zD ?_ | refine zE ?_ | refine zF ?_ | refine zG ?_ | refine zH ?_ | refine zJ ?_ | refine zI ?_ | refine splT ?_ | refine splF ?_ | refine splNot ?_
       | ((first | refine splIn ?_ ?_ | refine splD ?_ ?_ | refine splE ?_ ?_ | refine splNE ?_ ?_) <;> intro hc <;> first | (exfalso; omega) | (exfalso; dsimp only at hc; omega) | skip)
       | refine Exists.intro (α := List Value) [iv r1, iv r2] ⟨⟨rfl, fun w' hw' => e0 w' hw'⟩, ?_⟩
       | ((with_reducible show CallEv _ _ 164 _ _ _ _ _); refine callI env mixed 4000 [0,1,5,7,8] Try.func164 has164 Try.ntmps164 (Nat.le_of_ble_eq_true rfl) rfl rfl rfl ?_)
       | ((with_reducible show CallEv _ _ 136 _ _ _ _ _); refine callI env mixed 5000 [] Try.func136 has136 Try.ntmps136 (Nat.le_of_ble_eq_true rfl) rfl rfl rfl ?_)
       | ((with_reducible show CallEv _ _ 137 _ _ _ _ _); refine callE (k := 137) (fun β w' hbw => hv _) ?_)
     all_goals first | (exfalso; omega) | exact ⟨fun β => rfl, fun w' h => h⟩
  · rw [List.drop_of_length_le hkl, show apB days (lsR O k) [] = true from rfl, Bool.true_and] at hW
    subst hW
    cases vr with
    | false =>
     repeat'
      conv => whnf
      first
       | refine zA ?_ | refine zB ?_ | refine zC ?_ | refine zD ?_ | refine zE ?_ | refine zF ?_ | refine zG ?_ | refine zH ?_ | refine zJ ?_ | refine zI ?_ | refine splT ?_ | refine splF ?_ | refine splNot ?_
       | ((first | refine splIn ?_ ?_ | refine splD ?_ ?_ | refine splE ?_ ?_ | refine splNE ?_ ?_) <;> intro hc <;> first | (exfalso; omega) | (exfalso; dsimp only at hc; omega) | skip)
       | ((with_reducible show CallEv _ _ 137 _ _ _ _ _); refine callE (k := 137) (fun β w' hbw => h137 _) ?_)
     all_goals first | (exfalso; omega) | exact ⟨fun β => congrArg Value.bool (by first | (simp [inB, *]; done) | (simp [inB, *]; omega)), fun w' h => h⟩
    | true =>
     cases va with
     | false =>
      repeat'
       conv => whnf
       first
        | refine zA ?_ | refine zB ?_ | refine zC ?_ | refine zD ?_ | refine zE ?_ | refine zF ?_ | refine zG ?_ | refine zH ?_ | refine zJ ?_ | refine zI ?_ | refine splT ?_ | refine splF ?_ | refine splNot ?_
        | ((first | refine splIn ?_ ?_ | refine splD ?_ ?_ | refine splE ?_ ?_ | refine splNE ?_ ?_) <;> intro hc <;> first | (exfalso; omega) | (exfalso; dsimp only at hc; omega) | skip)
        | ((with_reducible show CallEv _ _ 137 _ _ _ _ _); refine callE (k := 137) (fun β w' hbw => h137 _) ?_)
        | ((with_reducible show CallEv _ _ 138 _ _ _ _ _); refine callE (k := 138) (fun β w' hbw => hall _ hbw) ?_)
        | ((with_reducible show CallEv _ _ 70 _ _ _ _ _); refine callE (k := 70) (fun β w' hbw => within_ok _ _ _ _) ?_)
      all_goals first | (exfalso; omega) | exact ⟨fun β => congrArg Value.bool (by first | (simp [inB, *]; done) | (simp [inB, *]; omega)), fun w' h => h⟩
     | true =>
      repeat'
       conv => whnf
       first
        | refine zA ?_ | refine zB ?_ | refine zC ?_ | refine zD ?_ | refine zE ?_ | refine zF ?_ | refine zG ?_ | refine zH ?_ | refine zJ ?_ | refine zI ?_ | refine splT ?_ | refine splF ?_ | refine splNot ?_
        | ((first | refine splIn ?_ ?_ | refine splD ?_ ?_ | refine splE ?_ ?_ | refine splNE ?_ ?_) <;> intro hc <;> first | (exfalso; omega) | (exfalso; dsimp only at hc; omega) | skip)
        | ((with_reducible show CallEv _ _ 137 _ _ _ _ _); refine callE (k := 137) (fun β w' hbw => h137 _) ?_)
        | ((with_reducible show CallEv _ _ 138 _ _ _ _ _); refine callE (k := 138) (fun β w' hbw => hall _ hbw) ?_)
        | ((with_reducible show CallEv _ _ 70 _ _ _ _ _); refine callE (k := 70) (fun β w' hbw => within_ok _ _ _ _) ?_)
      all_goals first | (exfalso; omega) | exact ⟨fun β => congrArg Value.bool (by first | (simp [inB, *]; done) | (simp [inB, *]; omega)), fun w' h => h⟩
theorem quB_eq (x : Tw) : quB x = (decide (x.O.length + x.R.length = 0) && (decide (x.s1 = 0) && (decide (x.s2 = 0) && [x.pay, x.lot, x.rent, x.cold, x.cut].all fun n => decide (n = 0)))) := by
 simp [quB, Bool.and_assoc]
set_option maxHeartbeats 2000000 in
set_option maxRecDepth 100000 in
theorem quarters_ok (t : Tn) (w : World) (h : TnIn t w) : Calls Try.prog 91 #[.agg t.cs.toArray] w fun e w' => e = .returned (.bool (quB t.d)) ∧ Below w.heap.size w w' := by
 obtain ⟨oo, oc, ro, rc, O, s1, s2, pay, lot, rent, R, cold, cut⟩ := t
 obtain ⟨hO, hR, hol, hrl⟩ := h
 dsimp only at hO hR hol hrl ⊢
 refine calls_val env mixed Try.func91 has91 Try.ntmps91 [.agg #[.slice oo O.length oc, iv s1, iv s2, iv pay, iv lot, iv rent, .slice ro R.length rc, iv cold, iv cut]] (by simp) ?_
 rw [quB_eq]
 dsimp only
 obtain ⟨va, hva⟩ : ∃ v, [pay, lot, rent, cold, cut].all (fun n : Int => decide (n = 0)) = v := ⟨_, rfl⟩
 rw [hva]
 have h79 := fun w' b c (h : w'.heap[b]? = some (.cells [iv pay, iv lot, iv rent, iv cold, iv cut].toArray 3 (0, 0))) => all133_ok [pay, lot, rent, cold, cut] (some ⟨b, 0, none⟩) c w' (Rd.of_cells (f := iF) (bs := [pay, lot, rent, cold, cut]) (fun _ => rfl) rfl h) (by show (5 : Nat) ≤ 1000000; decide)
 rw [hva] at h79
 obtain ⟨q, hq⟩ : ∃ q, (s1 == 0 && s2 == 0) = q := ⟨_, rfl⟩
 have hqq : (decide (s1 = 0) && (decide (s2 = 0) && va)) = (q && va) := by rw [← hq, Bool.and_assoc]; simp [beq_iff_eq, BEq.beq]
 rw [hqq]
 cases q <;> cases va
 all_goals skip
 repeat'
  conv => whnf
  first
   | refine zA ?_ | refine zB ?_ | refine zC ?_ | refine zD ?_ | refine zE ?_ | refine zF ?_ | refine zG ?_ | refine zH ?_ | refine zJ ?_ | refine zI ?_ | refine splT ?_ | refine splF ?_ | refine splNot ?_
   | ((first | refine splIn ?_ ?_ | refine splD ?_ ?_ | refine splE ?_ ?_ | refine splNE ?_ ?_) <;> intro hc <;> first | (exfalso; omega) | (exfalso; dsimp only at hc; omega) | skip)
   | refine eqlE55 hq ?_
   | ((with_reducible show CallEv _ _ 79 _ _ _ _ _); refine callM [1] (fun β w' hbk hbw => h79 w' (β 1) 5 (hbk 1 (by simp) _ rfl)) ?_)
 all_goals first | (exfalso; omega) | exact ⟨fun β => congrArg Value.bool (by first | (rw [decide_eq_true (by omega)]; rfl) | (rw [decide_eq_false (by omega)]; rfl) | (generalize decide _ = z; cases z <;> rfl)), fun w' h => h⟩
end Go.Proofs.Ythfabodamhdhaaa
namespace Go.Proofs.Ythfabodamhdhaaa
open Go Tx Go.RowKit
set_option linter.unusedSimpArgs false
set_option linter.unusedVariables false
theorem toB_n {x : To} (h : toB x = true) : ToN x := by
 simp only [toB, inB, Bool.and_eq_true, decide_eq_true_eq, List.all_eq_true, List.mem_range] at h
 obtain ⟨⟨h1, h2, h3, h4, h5⟩, ⟨h6, h7⟩, h8⟩ := h
 refine ⟨by omega, by omega, by omega, by omega, h5, fun r hr => ?_, fun k hk t ht => ?_⟩
 · obtain ⟨i, hi, rfl⟩ := List.mem_iff_getElem.1 hr
   have := h8 i hi
   rw [List.getElem?_eq_getElem hi] at this
   simp only [Option.any_some, lgB, inB, Bool.and_eq_true, decide_eq_true_eq, List.all_eq_true] at this
   exact ⟨this.1, fun p hp => by have := this.2.2 p hp; omega⟩
 · refine h7 t ?_
   rw [List.mem_iff_getElem?]
   exact ⟨k - 1, by rw [List.getElem?_drop, show 1 + (k - 1) = k from by omega]; exact ht⟩
theorem all_take {α : Type} {p : α → Bool} {L : List α} {k : Nat} {x : α} (h : L[k]? = some x) : (L.take (k + 1)).all p = ((L.take k).all p && p x) := by
 rw [List.take_add_one, h]; simp
theorem all_no {α : Type} {p : α → Bool} {L : List α} {k : Nat} {x : α} (h : L[k]? = some x) (hx : p x = false) : L.all p = false := by
 rw [List.all_eq_false]; exact ⟨x, List.mem_of_getElem? h, by simp [hx]⟩
namespace Tx
theorem Rd.dropP {α : Type} {sz : Nat} {f : α → List Value} {ad : Addr} {n c : Nat} {L : List α} {w : World} (h : Rd sz f (.slice (some ad) n c) L w) (k c' : Nat) : Rd sz f (.slice (some (ad.add (k * sz))) (L.drop k).length c') (L.drop k) w :=
 .inr ⟨_, _, rfl, fun i b hi j v hv => by
  rw [List.getElem?_drop] at hi
  have := rd_at h hi j v hv
  rwa [show ((ad.add (k * sz)).add (i * sz)) = ad.add ((k + i) * sz) from by rw [Addr.add_add, Nat.add_mul]]⟩
end Tx
set_option maxHeartbeats 4000000 in
set_option maxRecDepth 100000 in
theorem valid_ok (x : Tr) (w : World) (h : TrIn x w) : Calls Try.prog 56 #[x.v] w fun e w' => e = .returned (.bool (toB x.d)) ∧ Below w.heap.size w w' := by
 obtain ⟨days, shift, size, to, tc, T, lo, lc, L⟩ := x
 obtain ⟨hT, hTi, hL, hLi, htl, hll, hlr, htc⟩ := h
 dsimp only at hT hTi hL hLi htl hll hlr htc ⊢
 refine calls_val env mixed Try.func56 has56 Try.ntmps56 [.agg #[iv days, iv shift, iv size, .slice to T.length tc, .slice lo L.length lc]] (by simp) ?_
 have hq : toB (Tr.d ⟨days, shift, size, to, tc, T, lo, lc, L⟩) = ((inB days 1 60 && (inB shift 1 24 && (inB size 0 100000 && (inB T.length 2 9 && decide ((L.length : Int) = T.length))))) &&
  (((T[0]?).any (fun t => quB t.d) && (T.drop 1).all (fun t => twB days t.d)) && (List.all (List.range L.length) fun i => ((L[i]?).map Lr.L).any (lgB T.length i)))) := by
  simp only [toB, Tr.d, List.length_map, List.getElem?_map, Option.any_map, ← List.map_drop, List.all_map, Int.ofNat_inj]
  rfl
 rw [hq]
 clear hq
 by_cases hA : (1 ≤ days ∧ days ≤ 60) ∧ (1 ≤ shift ∧ shift ≤ 24) ∧ (0 ≤ size ∧ size ≤ 100000) ∧ (2 ≤ T.length ∧ T.length ≤ 9) ∧ L.length = T.length
 · obtain ⟨hd, hs, hz, hn, hl⟩ := hA
   rw [show (inB days 1 60 && (inB shift 1 24 && (inB size 0 100000 && (inB T.length 2 9 && decide ((L.length : Int) = T.length))))) = true from by
    simp only [inB, Bool.and_eq_true, decide_eq_true_eq]; omega, Bool.true_and]
   obtain ⟨t0, ht0⟩ : ∃ t, T[0]? = some t := ⟨_, List.getElem?_eq_getElem (by omega)⟩
   obtain ⟨_, ad, rfl, _⟩ := hT.ptr (by omega)
   have e0 := fun (w' : World) hw' => rd_atz (hT.below (w' := w') hw') ht0 (0 : Int) rfl
   have h91 := fun w' hb => quarters_ok t0 w' ((hTi t0 (List.mem_of_getElem? ht0)).below hb)
   rw [ht0, Option.any_some]
   obtain ⟨oo, oc, ro, rc, O, s1, s2, pay, lot, rent, R, cold, cut⟩ := t0
   dsimp only at h91 e0 ⊢
   obtain ⟨vq, hvq⟩ : ∃ v, quB ⟨O, s1, s2, pay, lot, rent, R, cold, cut⟩ = v := ⟨_, rfl⟩
   rw [hvq] at h91 ⊢
   cases vq with
   | false =>
    repeat'
     conv => whnf
     first
      | refine zA ?_ | refine zB ?_ | refine zC ?_ | refine zD ?_ | refine zE ?_ | refine zF ?_ | refine zG ?_ | refine zH ?_ | refine zJ ?_ | refine zI ?_ | refine splT ?_ | refine splF ?_ | refine splNot ?_
      | ((first | refine splIn ?_ ?_ | refine splD ?_ ?_ | refine splE ?_ ?_ | refine splNE ?_ ?_) <;> intro hc <;> first | (exfalso; omega) | (exfalso; dsimp only at hc; omega) | skip)
      | ((with_reducible show CallEv _ _ 70 _ _ _ _ _); refine callE (k := 70) (fun β w' hbw => within_ok _ _ _ _) ?_)
      | refine Exists.intro (α := List Value) [.slice oo O.length oc, iv s1, iv s2, iv pay, iv lot, iv rent, .slice ro R.length rc, iv cold, iv cut] ⟨⟨rfl, fun w' hw' => e0 w' hw'⟩, ?_⟩
      | ((with_reducible show CallEv _ _ 91 _ _ _ _ _); refine callE (k := 91) (fun β w' hbw => h91 _ hbw) ?_)
    all_goals first | (exfalso; omega) | exact ⟨fun β => rfl, fun w' h => h⟩
   | true =>
    rw [Bool.true_and]
    obtain ⟨vl, hvl⟩ : ∃ v, (List.all (List.range L.length) fun i => ((L[i]?).map Lr.L).any (lgB T.length i)) = v := ⟨_, rfl⟩
    rw [hvl]
    generalize hW : Value.bool _ = W
    have hW' : W = Value.bool ((((T.drop 1).drop 0).all fun t => twB days t.d) && vl) := hW.symm
    clear hW
    repeat'
     conv => whnf
     first
      | refine zA ?_ | refine zB ?_ | refine zC ?_ | refine zD ?_ | refine zE ?_ | refine zF ?_ | refine zG ?_ | refine zH ?_ | refine zJ ?_ | refine zI ?_ | refine splT ?_ | refine splF ?_ | refine splNot ?_
      | ((first | refine splIn ?_ ?_ | refine splD ?_ ?_ | refine splE ?_ ?_ | refine splNE ?_ ?_) <;> intro hc <;> first | (exfalso; omega) | (exfalso; dsimp only at hc; omega) | skip)
      | ((with_reducible show CallEv _ _ 70 _ _ _ _ _); refine callE (k := 70) (fun β w' hbw => within_ok _ _ _ _) ?_)
      | refine Exists.intro (α := List Value) [.slice oo O.length oc, iv s1, iv s2, iv pay, iv lot, iv rent, .slice ro R.length rc, iv cold, iv cut] ⟨⟨rfl, fun w' hw' => e0 w' hw'⟩, ?_⟩
      | ((with_reducible show CallEv _ _ 91 _ _ _ _ _); refine callE (k := 91) (fun β w' hbw => h91 _ hbw) ?_)
      | refine slLo env (z := 1) rfl rfl rfl rfl (by omega) (by omega) rfl ?_
      | ((with_reducible show CallEv _ _ 92 _ _ _ _ _); refine callI env mixed 1000 [1,3,43] Try.func92 has92 Try.ntmps92 (Nat.le_of_ble_eq_true rfl) rfl rfl rfl ?_)
      | ((with_reducible show CallEv _ _ 134 _ _ _ _ _); refine callI env mixed 2000 [] Try.func134 has134 Try.ntmps134 (Nat.le_of_ble_eq_true rfl) rfl rfl rfl ?_)
      | ((with_reducible show CallEv _ _ 163 _ _ _ _ _); refine callI env mixed 3000 [] Try.func163 has163 Try.ntmps163 (Nat.le_of_ble_eq_true rfl) rfl rfl rfl ?_)
    all_goals first | (exfalso; omega) | skip
    have hTT := fun (w' : World) hw' => Rd.dropP (hT.below (w' := w') hw') 1 (tc - 1)
    have hTm : ∀ t ∈ T.drop 1, t ∈ T := fun t ht => List.mem_of_mem_drop ht
    have hTl : (T.drop 1).length = T.length - 1 := List.length_drop ..
    generalize T.drop 1 = TT at *
    have had : ad.add (1 * ti57.size) = ad.add (1 * 9) := rfl
    generalize ad.add (1 * ti57.size) = ad1 at *
    subst had
    refine loopE (fun k : Nat => [(0, .v (.slice (some (ad.add (1 * 9))) (T.length - 1) (tc - 1))), (1, .fn (.func 135) [.ptr 1 0]), (7, .v (iv (T.length - 1 : Nat))), (8, .v (iv k))]) (fun _ => [(1, .cells [.fn (.func 93) [.ptr 0 0]] 165), (0, .cells [.v (iv days), .v (iv shift), .v (iv size), .v (.slice (some ad) T.length tc), .v (.slice lo L.length lc)] 35)]) (fun k => k ≤ T.length - 1 ∧ W = Value.bool (((TT.drop k).all fun t => twB days t.d) && vl)) (fun k => T.length - k) 0 ⟨Nat.zero_le _, hW'⟩ ⟨rfl, rfl, rfl, rfl, trivial⟩ ⟨rfl, rfl, trivial⟩ (fun _ => ⟨rfl, rfl⟩) ?_
    clear hW'
    intro k ⟨hk, hW⟩
    rcases Nat.lt_or_ge k (T.length - 1) with hkl | hkl
    · obtain ⟨t, ht⟩ : ∃ t, TT[k]? = some t := ⟨_, List.getElem?_eq_getElem (by omega)⟩
      have e1 := fun (w' : World) hw' => rd_ati (hTT w' hw') ht
      have h94 := fun w' hb => town_ok t days w' ((hTi t (hTm t (List.mem_of_getElem? ht))).below hb) hd
      obtain ⟨v, hv⟩ : ∃ v, twB days t.d = v := ⟨_, rfl⟩
      have hdk : ((TT.drop k).all fun t => twB days t.d) = (v && ((TT.drop (k + 1)).all fun t => twB days t.d)) := by
       obtain ⟨hkk, e⟩ := List.getElem?_eq_some_iff.1 ht
       rw [List.drop_eq_getElem_cons hkk, e, List.all_cons, hv]
      rw [hdk] at hW
      rw [hv] at h94
      obtain ⟨oo', oc', ro', rc', O', s1', s2', pay', lot', rent', R', cold', cut'⟩ := t
      cases v with
      | true =>
       rw [Bool.true_and] at hW
       repeat'
        conv => whnf
        first
         | refine zA ?_ | refine zB ?_ | refine zC ?_ | refine zD ?_ | refine zE ?_ | refine zF ?_ | refine zG ?_ | refine zH ?_ | refine zJ ?_ | refine zI ?_ | refine splT ?_ | refine splF ?_ | refine splNot ?_
         | ((first | refine splIn ?_ ?_ | refine splD ?_ ?_ | refine splE ?_ ?_ | refine splNE ?_ ?_) <;> intro hc <;> first | (exfalso; omega) | (exfalso; dsimp only at hc; omega) | skip)
         | refine Exists.intro (α := List Value) [.slice oo' O'.length oc', iv s1', iv s2', iv pay', iv lot', iv rent', .slice ro' R'.length rc', iv cold', iv cut'] ⟨⟨rfl, fun w' hw' => e1 w' hw'⟩, ?_⟩
         | ((with_reducible show CallEv _ _ 135 _ _ _ _ _); refine callI env mixed 4000 [0,1,5,7,8] Try.func135 has135 Try.ntmps135 (Nat.le_of_ble_eq_true rfl) rfl rfl rfl ?_)
         | ((with_reducible show CallEv _ _ 93 _ _ _ _ _); refine callI env mixed 5000 [] Try.func93 has93 Try.ntmps93 (Nat.le_of_ble_eq_true rfl) rfl rfl rfl ?_)
         | ((with_reducible show CallEv _ _ 94 _ _ _ _ _); refine callE (k := 94) (fun β w' hbw => h94 _ hbw) ?_)
       all_goals first | (exfalso; omega) | exact ⟨k + 1, ⟨by omega, hW⟩, by omega, Ent.weak rfl ⟨rfl, rfl, rfl, rfl, trivial⟩ ⟨rfl, rfl, trivial⟩ fun _ h => h⟩
      | false =>
       rw [Bool.false_and, Bool.false_and] at hW
       subst hW
       repeat'
        conv => whnf
        first
         | refine zA ?_ | refine zB ?_ | refine zC ?_ | refine zD ?_ | refine zE ?_ | refine zF ?_ | refine zG ?_ | refine zH ?_ | refine zJ ?_ | refine zI ?_ | refine splT ?_ | refine splF ?_ | refine splNot ?_
         | ((first | refine splIn ?_ ?_ | refine splD ?_ ?_ | refine splE ?_ ?_ | refine splNE ?_ ?_) <;> intro hc <;> first | (exfalso; omega) | (exfalso; dsimp only at hc; omega) | skip)
         | refine Exists.intro (α := List Value) [.slice oo' O'.length oc', iv s1', iv s2', iv pay', iv lot', iv rent', .slice ro' R'.length rc', iv cold', iv cut'] ⟨⟨rfl, fun w' hw' => e1 w' hw'⟩, ?_⟩
         | ((with_reducible show CallEv _ _ 135 _ _ _ _ _); refine callI env mixed 4000 [0,1,5,7,8] Try.func135 has135 Try.ntmps135 (Nat.le_of_ble_eq_true rfl) rfl rfl rfl ?_)
         | ((with_reducible show CallEv _ _ 93 _ _ _ _ _); refine callI env mixed 5000 [] Try.func93 has93 Try.ntmps93 (Nat.le_of_ble_eq_true rfl) rfl rfl rfl ?_)
         | ((with_reducible show CallEv _ _ 94 _ _ _ _ _); refine callE (k := 94) (fun β w' hbw => h94 _ hbw) ?_)
       all_goals first | (exfalso; omega) | exact ⟨fun β => rfl, fun w' h => h⟩
    · obtain rfl : k = T.length - 1 := by omega
      rw [List.drop_of_length_le (by omega), List.all_nil, Bool.true_and] at hW
      subst hW
      clear hTT
      conv => whnf
      repeat'
       conv => whnf
       first
        | refine zA ?_ | refine zB ?_ | refine zC ?_ | refine zD ?_ | refine zE ?_ | refine zF ?_ | refine zG ?_ | refine zH ?_ | refine zJ ?_ | refine zI ?_ | refine splT ?_ | refine splF ?_ | refine splNot ?_
        | ((first | refine splIn ?_ ?_ | refine splD ?_ ?_ | refine splE ?_ ?_ | refine splNE ?_ ?_) <;> intro hc <;> first | (exfalso; omega) | (exfalso; dsimp only at hc; omega) | skip)
      all_goals first | (exfalso; omega) | skip
      refine loopE (fun i : Nat => [(1, .ptr 0 0), (3, .v (iv T.length)), (52, .v (.slice lo L.length lc)), (53, .v (iv L.length)), (54, .v (iv i))]) (fun _ => [(0, .cells [.v (iv days), .v (iv shift), .v (iv size), .v (.slice (some ad) T.length tc), .v (.slice lo L.length lc)] 35)]) (fun i => i ≤ L.length ∧ ((List.range i).all fun i => ((L[i]?).map Lr.L).any (lgB T.length i)) = true) (fun i => L.length - i) 0 ⟨Nat.zero_le _, rfl⟩ ⟨rfl, rfl, rfl, rfl, rfl, trivial⟩ ⟨rfl, trivial⟩ (fun _ => ⟨rfl, rfl⟩) ?_
      intro i ⟨hi, hall⟩
      rcases Nat.lt_or_ge i L.length with hil | hil
      · obtain ⟨⟨ro, rc, row⟩, hr⟩ : ∃ r, L[i]? = some r := ⟨_, List.getElem?_eq_getElem hil⟩
        obtain ⟨_, la, rfl, _⟩ := hL.ptr (by omega)
        have e2 := fun (w' : World) hw' => rd_ati (hL.below (w' := w') hw') hr
        have hrd := hLi _ (List.mem_of_getElem? hr)
        have hrl := hlr _ (List.mem_of_getElem? hr)
        dsimp only at hrd hrl
        have hp : ((L[i]?).map Lr.L).any (lgB T.length i) = lgB T.length i row := by rw [hr]; rfl
        have hsu : ((List.range (i + 1)).all fun i => ((L[i]?).map Lr.L).any (lgB T.length i)) = lgB T.length i row := by
         rw [List.range_succ, List.all_append, hall, ← hp]; simp
        have hno : lgB T.length i row = false → vl = false := fun h => by
         rw [← hvl, List.all_eq_false]
         exact ⟨i, List.mem_range.2 hil, by rw [hp, h]; decide⟩
        by_cases hrn : row.length = T.length
        · obtain ⟨⟨p1, p2⟩, hpp⟩ : ∃ p, row[i]? = some p := ⟨_, List.getElem?_eq_getElem (by omega)⟩
          obtain ⟨_, ra, rfl, _⟩ := hrd.ptr (by omega)
          have e3 := fun (w' : World) hw' => rd_ati (hrd.below (w' := w') hw') hpp
          have h95 := fun w' hb => all96_ok row (some ra) rc w' (hrd.below hb) hrl
          obtain ⟨va, hva⟩ : ∃ v, row.all (fun x : Int × Int => inB x.1 0 200 && inB x.2 0 1000000) = v := ⟨_, rfl⟩
          obtain ⟨q, hq⟩ : ∃ q, (!(p1 == 0 && p2 == 0)) = q := ⟨_, rfl⟩
          rw [hva] at h95
          have hlg : lgB T.length i row = (!q && va) := by
           unfold lgB
           rw [decide_eq_true hrn, Bool.true_and, hva, hpp, ← hq, Bool.not_not]
           congr 1
           rw [Bool.eq_iff_iff]; simp
          rw [hlg] at hsu hno
          cases q with
          | true =>
           rw [hno rfl]
           repeat'
            conv => whnf
            first
             | refine zA ?_ | refine zB ?_ | refine zC ?_ | refine zD ?_ | refine zE ?_ | refine zF ?_ | refine zG ?_ | refine zH ?_ | refine zJ ?_ | refine zI ?_ | refine splT ?_ | refine splF ?_ | refine splNot ?_
             | ((first | refine splIn ?_ ?_ | refine splD ?_ ?_ | refine splE ?_ ?_ | refine splNE ?_ ?_) <;> intro hc <;> first | (exfalso; omega) | (exfalso; dsimp only at hc; omega) | skip)
             | refine Exists.intro (α := List Value) [.slice (some ra) row.length rc] ⟨⟨rfl, fun w' hw' => e2 w' hw'⟩, ?_⟩
             | refine Exists.intro (α := List Value) [iv p1, iv p2] ⟨⟨rfl, fun w' hw' => e3 w' hw'⟩, ?_⟩
             | refine neqE60 hq ?_
             | ((with_reducible show CallEv _ _ 95 _ _ _ _ _); refine callE (k := 95) (fun β w' hbw => h95 _ hbw) ?_)
           all_goals first | (exfalso; omega) | exact ⟨fun β => rfl, fun w' h => h⟩
          | false =>
           cases va with
           | true =>
            repeat'
             conv => whnf
             first
              | refine zA ?_ | refine zB ?_ | refine zC ?_ | refine zD ?_ | refine zE ?_ | refine zF ?_ | refine zG ?_ | refine zH ?_ | refine zJ ?_ | refine zI ?_ | refine splT ?_ | refine splF ?_ | refine splNot ?_
              | ((first | refine splIn ?_ ?_ | refine splD ?_ ?_ | refine splE ?_ ?_ | refine splNE ?_ ?_) <;> intro hc <;> first | (exfalso; omega) | (exfalso; dsimp only at hc; omega) | skip)
              | refine Exists.intro (α := List Value) [.slice (some ra) row.length rc] ⟨⟨rfl, fun w' hw' => e2 w' hw'⟩, ?_⟩
              | refine Exists.intro (α := List Value) [iv p1, iv p2] ⟨⟨rfl, fun w' hw' => e3 w' hw'⟩, ?_⟩
              | refine neqE60 hq ?_
              | ((with_reducible show CallEv _ _ 95 _ _ _ _ _); refine callE (k := 95) (fun β w' hbw => h95 _ hbw) ?_)
            all_goals first | (exfalso; omega) | exact ⟨i + 1, ⟨by omega, hsu⟩, by omega, Ent.weak rfl ⟨rfl, rfl, rfl, rfl, rfl, trivial⟩ ⟨rfl, trivial⟩ fun _ h => h⟩
           | false =>
            rw [hno rfl]
            repeat'
             conv => whnf
             first
              | refine zA ?_ | refine zB ?_ | refine zC ?_ | refine zD ?_ | refine zE ?_ | refine zF ?_ | refine zG ?_ | refine zH ?_ | refine zJ ?_ | refine zI ?_ | refine splT ?_ | refine splF ?_ | refine splNot ?_
              | ((first | refine splIn ?_ ?_ | refine splD ?_ ?_ | refine splE ?_ ?_ | refine splNE ?_ ?_) <;> intro hc <;> first | (exfalso; omega) | (exfalso; dsimp only at hc; omega) | skip)
              | refine Exists.intro (α := List Value) [.slice (some ra) row.length rc] ⟨⟨rfl, fun w' hw' => e2 w' hw'⟩, ?_⟩
              | refine Exists.intro (α := List Value) [iv p1, iv p2] ⟨⟨rfl, fun w' hw' => e3 w' hw'⟩, ?_⟩
              | refine neqE60 hq ?_
              | ((with_reducible show CallEv _ _ 95 _ _ _ _ _); refine callE (k := 95) (fun β w' hbw => h95 _ hbw) ?_)
            all_goals first | (exfalso; omega) | exact ⟨fun β => rfl, fun w' h => h⟩
        · rw [hno (by unfold lgB; rw [decide_eq_false hrn]; rfl)]
          repeat'
           conv => whnf
           first
            | refine zA ?_ | refine zB ?_ | refine zC ?_ | refine zD ?_ | refine zE ?_ | refine zF ?_ | refine zG ?_ | refine zH ?_ | refine zJ ?_ | refine zI ?_ | refine splT ?_ | refine splF ?_ | refine splNot ?_
            | ((first | refine splIn ?_ ?_ | refine splD ?_ ?_ | refine splE ?_ ?_ | refine splNE ?_ ?_) <;> intro hc <;> first | (exfalso; omega) | (exfalso; dsimp only at hc; omega) | skip)
            | refine Exists.intro (α := List Value) [.slice ro row.length rc] ⟨⟨rfl, fun w' hw' => e2 w' hw'⟩, ?_⟩
          all_goals first | (exfalso; omega) | exact ⟨fun β => rfl, fun w' h => h⟩
      · obtain rfl : i = L.length := by omega
        have hvt : vl = true := by rw [← hvl]; exact hall
        rw [hvt]
        repeat'
         conv => whnf
         first
          | refine zA ?_ | refine zB ?_ | refine zC ?_ | refine zD ?_ | refine zE ?_ | refine zF ?_ | refine zG ?_ | refine zH ?_ | refine zJ ?_ | refine zI ?_ | refine splT ?_ | refine splF ?_ | refine splNot ?_
          | ((first | refine splIn ?_ ?_ | refine splD ?_ ?_ | refine splE ?_ ?_ | refine splNE ?_ ?_) <;> intro hc <;> first | (exfalso; omega) | (exfalso; dsimp only at hc; omega) | skip)
        all_goals first | (exfalso; omega) | exact ⟨fun β => rfl, fun w' h => h⟩
 · rw [show (inB days 1 60 && (inB shift 1 24 && (inB size 0 100000 && (inB T.length 2 9 && decide ((L.length : Int) = T.length))))) = false from by
    rw [Bool.eq_false_iff]; simp only [inB, ne_eq, Bool.and_eq_true, decide_eq_true_eq]; omega, Bool.false_and]
   repeat'
    conv => whnf
    first
     | refine zA ?_ | refine zB ?_ | refine zC ?_ | refine zD ?_ | refine zE ?_ | refine zF ?_ | refine zG ?_ | refine zH ?_ | refine zJ ?_ | refine zI ?_ | refine splT ?_ | refine splF ?_ | refine splNot ?_
     | ((first | refine splIn ?_ ?_ | refine splD ?_ ?_ | refine splE ?_ ?_ | refine splNE ?_ ?_) <;> intro hc <;> first | (exfalso; omega) | (exfalso; dsimp only at hc; omega) | skip)
     | ((with_reducible show CallEv _ _ 70 _ _ _ _ _); refine callE (k := 70) (fun β w' hbw => within_ok _ _ _ _) ?_)
   all_goals first | (exfalso; omega) | exact ⟨fun β => rfl, fun w' h => h⟩
end Go.Proofs.Ythfabodamhdhaaa
namespace Go.Proofs.Ythfabodamhdhaaa
open Go Tx
noncomputable def body84 : Code := Try.f84.body.getD .skip
theorem has84 : Try.f84.body = some body84 := by kernel_rfl
noncomputable def body85 : Code := Try.f85.body.getD .skip
theorem has85 : Try.f85.body = some body85 := by kernel_rfl
noncomputable def body116 : Code := Try.f116.body.getD .skip
theorem has116 : Try.f116.body = some body116 := by kernel_rfl
noncomputable def body117 : Code := Try.f117.body.getD .skip
theorem has117 : Try.f117.body = some body117 := by kernel_rfl
noncomputable def body118 : Code := Try.f118.body.getD .skip
theorem has118 : Try.f118.body = some body118 := by kernel_rfl
noncomputable def body119 : Code := Try.f119.body.getD .skip
theorem has119 : Try.f119.body = some body119 := by kernel_rfl
noncomputable def body120 : Code := Try.f120.body.getD .skip
theorem has120 : Try.f120.body = some body120 := by kernel_rfl
noncomputable def body121 : Code := Try.f121.body.getD .skip
theorem has121 : Try.f121.body = some body121 := by kernel_rfl
noncomputable def body122 : Code := Try.f122.body.getD .skip
theorem has122 : Try.f122.body = some body122 := by kernel_rfl
noncomputable def body157 : Code := Try.f157.body.getD .skip
theorem has157 : Try.f157.body = some body157 := by kernel_rfl
noncomputable def body158 : Code := Try.f158.body.getD .skip
theorem has158 : Try.f158.body = some body158 := by kernel_rfl
noncomputable def body168 : Code := Try.f168.body.getD .skip
theorem has168 : Try.f168.body = some body168 := by kernel_rfl
noncomputable def body169 : Code := Try.f169.body.getD .skip
theorem has169 : Try.f169.body = some body169 := by kernel_rfl
noncomputable def body170 : Code := Try.f170.body.getD .skip
theorem has170 : Try.f170.body = some body170 := by kernel_rfl
noncomputable def body171 : Code := Try.f171.body.getD .skip
theorem has171 : Try.f171.body = some body171 := by kernel_rfl
noncomputable def body172 : Code := Try.f172.body.getD .skip
theorem has172 : Try.f172.body = some body172 := by kernel_rfl
noncomputable def body173 : Code := Try.f173.body.getD .skip
theorem has173 : Try.f173.body = some body173 := by kernel_rfl
noncomputable def body175 : Code := Try.f175.body.getD .skip
theorem has175 : Try.f175.body = some body175 := by kernel_rfl
noncomputable def body176 : Code := Try.f176.body.getD .skip
theorem has176 : Try.f176.body = some body176 := by kernel_rfl
noncomputable def body177 : Code := Try.f177.body.getD .skip
theorem has177 : Try.f177.body = some body177 := by kernel_rfl
noncomputable def body178 : Code := Try.f178.body.getD .skip
theorem has178 : Try.f178.body = some body178 := by kernel_rfl
noncomputable def body179 : Code := Try.f179.body.getD .skip
theorem has179 : Try.f179.body = some body179 := by kernel_rfl
noncomputable def body180 : Code := Try.f180.body.getD .skip
theorem has180 : Try.f180.body = some body180 := by kernel_rfl
noncomputable def body181 : Code := Try.f181.body.getD .skip
theorem has181 : Try.f181.body = some body181 := by kernel_rfl
end Go.Proofs.Ythfabodamhdhaaa
namespace Go.Proofs.Ythfabodamhdhaaa
open Go Tx Go.RowKit
set_option linter.unusedSimpArgs false
set_option linter.unusedVariables false
theorem sw_ok (n lo hi : Int) (w : World) : Calls Try.prog 168 #[iv n, iv lo, iv hi] w fun e w' => e = .returned (.bool (inB n lo hi)) ∧ Below w.heap.size w w' := by
  refine calls_val env mixed Try.func168 has168 Try.ntmps168 [iv n, iv lo, iv hi] (by simp) ?_
  repeat'
   conv => whnf
   first
    | refine zA ?_ | refine zB ?_ | refine zC ?_ | refine zD ?_ | refine zE ?_ | refine zF ?_ | refine zG ?_ | refine zH ?_ | refine zJ ?_ | refine zI ?_ | refine splT ?_ | refine splF ?_ | refine splNot ?_
    | ((first | refine splIn ?_ ?_ | refine splD ?_ ?_ | refine splE ?_ ?_ | refine splNE ?_ ?_) <;> intro hc <;> first | (exfalso; omega) | (exfalso; dsimp only at hc; omega) | skip)
  all_goals exact ⟨fun β => congrArg Value.bool (by simp [inB, *]), fun w' h => h⟩
def evB (L : List Int) (lo hi : Int) : Bool := L.all fun n => inB n lo hi
theorem evB_take {L : List Int} {lo hi x : Int} {k : Nat} (h : L[k]? = some x) : evB (L.take (k + 1)) lo hi = (evB (L.take k) lo hi && inB x lo hi) := by
  rw [evB, List.take_add_one, h]; simp [evB]
theorem evB_no {L : List Int} {lo hi x : Int} {k : Nat} (h : L[k]? = some x) (hx : inB x lo hi = false) : evB L lo hi = false := by
  rw [evB, List.all_eq_false]; exact ⟨x, List.mem_of_getElem? h, by simp [hx]⟩
set_option maxHeartbeats 1000000 in
set_option maxRecDepth 100000 in
theorem sev_ok (L : List Int) (o : Option Addr) (c : Nat) (lo hi : Int) (w : World) (hrd : Rd 1 iF (.slice o L.length c) L w) (hl : L.length ≤ 1000000) :
    Calls Try.prog 169 #[.slice o L.length c, iv lo, iv hi] w fun e w' => e = .returned (.bool (evB L lo hi)) ∧ Below w.heap.size w w' := by
  refine calls_val env mixed Try.func169 has169 Try.ntmps169 [.slice o L.length c, iv lo, iv hi] (by simp) ?_
  repeat'
   conv => whnf
   first
    | refine zA ?_ | refine zB ?_ | refine zC ?_ | refine zD ?_ | refine zE ?_ | refine zF ?_ | refine zG ?_ | refine zH ?_ | refine zJ ?_ | refine zI ?_ | refine splT ?_ | refine splF ?_ | refine splNot ?_
    | ((first | refine splIn ?_ ?_ | refine splD ?_ ?_ | refine splE ?_ ?_ | refine splNE ?_ ?_) <;> intro hc <;> first | (exfalso; omega) | (exfalso; dsimp only at hc; omega) | skip)
    | ((with_reducible show CallEv _ _ 175 _ _ _ _ _); refine callI env mixed 1000 [] Try.func175 has175 Try.ntmps175 (Nat.le_of_ble_eq_true rfl) rfl rfl rfl ?_)
    | ((with_reducible show CallEv _ _ 112 _ _ _ _ _); refine callI env mixed 2000 [] Try.func112 has112 Try.ntmps112 (Nat.le_of_ble_eq_true rfl) rfl rfl rfl ?_)
    | ((with_reducible show CallEv _ _ 156 _ _ _ _ _); refine callI env mixed 3000 [] Try.func156 has156 Try.ntmps156 (Nat.le_of_ble_eq_true rfl) rfl rfl rfl ?_)
  refine loopE (fun k : Nat => [(0, .v (.slice o L.length c)), (1, .fn (.func 180) [.ptr 2 0]), (7, .v (iv L.length)), (8, .v (iv k))]) (fun _ => [(0, .cells [.v (iv lo)] 3), (1, .cells [.v (iv hi)] 3), (2, .cells [.fn (.func 176) [.ptr 0 0, .ptr 1 0]] 135)]) (fun k => k ≤ L.length ∧ evB (L.take k) lo hi = true) (fun k => L.length - k) 0 ⟨Nat.zero_le _, rfl⟩ ⟨rfl, rfl, rfl, rfl, trivial⟩ ⟨rfl, rfl, rfl, trivial⟩ (fun _ => ⟨rfl, rfl⟩) ?_
  intro k ⟨hk, hall⟩
  rcases Nat.lt_or_ge k L.length with hkl | hkl
  · obtain ⟨x, hx⟩ : ∃ b, L[k]? = some b := ⟨_, List.getElem?_eq_getElem hkl⟩
    obtain ⟨_, ad, rfl, _⟩ := hrd.ptr (by omega)
    have e0 := fun (w' : World) hw' => rd_ati (hrd.below (w' := w') hw') hx
    have ht := evB_take (lo := lo) (hi := hi) hx
    rw [hall, Bool.true_and] at ht
    have hv := fun w' => sw_ok x lo hi w'
    cases hg : inB x lo hi with
    | true =>
      rw [hg] at hv ht
      repeat'
       conv => whnf
       first
        | refine zA ?_ | refine zB ?_ | refine zC ?_ | refine zD ?_ | refine zE ?_ | refine zF ?_ | refine zG ?_ | refine zH ?_ | refine zJ ?_ | refine zI ?_ | refine splT ?_ | refine splF ?_ | refine splNot ?_
        | ((first | refine splIn ?_ ?_ | refine splD ?_ ?_ | refine splE ?_ ?_ | refine splNE ?_ ?_) <;> intro hc <;> first | (exfalso; omega) | (exfalso; dsimp only at hc; omega) | skip)
        | refine Exists.intro (α := List Value) [iv x] ⟨⟨rfl, fun w' hw' => e0 w' hw'⟩, ?_⟩
        | ((with_reducible show CallEv _ _ 180 _ _ _ _ _); refine callI env mixed 4000 [0,1,5,7,8] Try.func180 has180 Try.ntmps180 (Nat.le_of_ble_eq_true rfl) rfl rfl rfl ?_)
        | ((with_reducible show CallEv _ _ 176 _ _ _ _ _); refine callI env mixed 5000 [] Try.func176 has176 Try.ntmps176 (Nat.le_of_ble_eq_true rfl) rfl rfl rfl ?_)
        | ((with_reducible show CallEv _ _ 168 _ _ _ _ _); refine callE (k := 168) (fun β w' hbw => hv _) ?_)
      exact ⟨k + 1, ⟨by omega, ht⟩, by omega, Ent.weak rfl ⟨rfl, rfl, rfl, rfl, trivial⟩ ⟨rfl, rfl, rfl, trivial⟩ fun _ h => h⟩
    | false =>
      rw [hg] at hv ht
      rw [evB_no hx hg]
      repeat'
       conv => whnf
       first
        | refine zA ?_ | refine zB ?_ | refine zC ?_ | refine zD ?_ | refine zE ?_ | refine zF ?_ | refine zG ?_ | refine zH ?_ | refine zJ ?_ | refine zI ?_ | refine splT ?_ | refine splF ?_ | refine splNot ?_
        | ((first | refine splIn ?_ ?_ | refine splD ?_ ?_ | refine splE ?_ ?_ | refine splNE ?_ ?_) <;> intro hc <;> first | (exfalso; omega) | (exfalso; dsimp only at hc; omega) | skip)
        | refine Exists.intro (α := List Value) [iv x] ⟨⟨rfl, fun w' hw' => e0 w' hw'⟩, ?_⟩
        | ((with_reducible show CallEv _ _ 180 _ _ _ _ _); refine callI env mixed 4000 [0,1,5,7,8] Try.func180 has180 Try.ntmps180 (Nat.le_of_ble_eq_true rfl) rfl rfl rfl ?_)
        | ((with_reducible show CallEv _ _ 176 _ _ _ _ _); refine callI env mixed 5000 [] Try.func176 has176 Try.ntmps176 (Nat.le_of_ble_eq_true rfl) rfl rfl rfl ?_)
        | ((with_reducible show CallEv _ _ 168 _ _ _ _ _); refine callE (k := 168) (fun β w' hbw => hv _) ?_)
      all_goals first | exact ⟨fun β => rfl, fun w' h => h⟩ | (exfalso; omega) | skip
  · rw [List.take_of_length_le hkl] at hall
    rw [hall]
    repeat'
     conv => whnf
     first
      | refine zA ?_ | refine zB ?_ | refine zC ?_ | refine zD ?_ | refine zE ?_ | refine zF ?_ | refine zG ?_ | refine zH ?_ | refine zJ ?_ | refine zI ?_ | refine splT ?_ | refine splF ?_ | refine splNot ?_
      | ((first | refine splIn ?_ ?_ | refine splD ?_ ?_ | refine splE ?_ ?_ | refine splNE ?_ ?_) <;> intro hc <;> first | (exfalso; omega) | (exfalso; dsimp only at hc; omega) | skip)
    all_goals first | exact ⟨fun β => rfl, fun w' h => h⟩ | (exfalso; omega) | skip
structure Rw where
  o : Option Addr
  c : Nat
  xs : List Int
abbrev Rw.v (r : Rw) : Value := .slice r.o r.xs.length r.c
abbrev Rw.cs (r : Rw) : List Value := [r.v]
def RR (C : List Rw) (w : World) : Prop := ∀ r ∈ C, Rd 1 iF r.v r.xs w
theorem RR.below {C : List Rw} {w w' : World} (h : RR C w) (hb : Below w.heap.size w w') : RR C w' := fun r hr => (h r hr).below hb
structure Cr where
  no : Option Addr
  nc : Nat
  N : List Int
  wk : Int
  co : Option Addr
  cc : Nat
  C : List Rw
abbrev Cr.cs (x : Cr) : List Value := [.slice x.no x.N.length x.nc, iv x.wk, .slice x.co x.C.length x.cc]
abbrev Cr.v (x : Cr) : Value := .agg #[.slice x.no x.N.length x.nc, iv x.wk, .slice x.co x.C.length x.cc]
structure CrIn (x : Cr) (w : World) : Prop where
  n : Rd 1 iF (.slice x.no x.N.length x.nc) x.N w
  c : Rd 1 Rw.cs (.slice x.co x.C.length x.cc) x.C w
  r : RR x.C w
  nl : x.N.length ≤ 1000000
  cl : x.C.length ≤ 1000000
  rl : ∀ r ∈ x.C, r.xs.length ≤ 1000000
theorem CrIn.below {x : Cr} {w w' : World} (h : CrIn x w) (hb : Below w.heap.size w w') : CrIn x w' := ⟨h.n.below hb, h.c.below hb, h.r.below hb, h.nl, h.cl, h.rl⟩
abbrev Cr.CC (x : Cr) : List (List Int) := x.C.map Rw.xs
def rowOk (n : Nat) (l : List Int) : Bool := decide (l.length = n) && evB l 0 2000
def crOk (N : List Int) (wk : Int) (CC : List (List Int)) : Bool :=
  inB N.length 1 6 && evB N 0 2000 && inB wk 1 60 && inB CC.length 1 20 && CC.all (rowOk N.length)
set_option maxHeartbeats 1000000 in
set_option maxRecDepth 100000 in
theorem svalid_ok (x : Cr) (w : World) (h : CrIn x w) : Calls Try.prog 157 #[x.v] w fun e w' => e = .returned (.bool (crOk x.N x.wk x.CC)) ∧ Below w.heap.size w w' := by
  obtain ⟨no, nc, N, wk, co, cc, C⟩ := x
  obtain ⟨hN, hC, hR, hnl, hcl, hrl⟩ := h
  dsimp only at hN hC hR hnl hcl hrl ⊢
  refine calls_val env mixed Try.func157 has157 Try.ntmps157 [.agg #[.slice no N.length nc, iv wk, .slice co C.length cc]] (by simp) ?_
  have hcm : (C.map Rw.xs).length = C.length := List.length_map ..
  repeat'
   conv => whnf
   first
    | refine zA ?_ | refine zB ?_ | refine zC ?_ | refine zD ?_ | refine zE ?_ | refine zF ?_ | refine zG ?_ | refine zH ?_ | refine zJ ?_ | refine zI ?_ | refine splT ?_ | refine splF ?_ | refine splNot ?_
    | ((first | refine splIn ?_ ?_ | refine splD ?_ ?_ | refine splE ?_ ?_ | refine splNE ?_ ?_) <;> intro hc <;> first | (exfalso; omega) | (exfalso; dsimp only at hc; omega) | skip)
    | ((with_reducible show CallEv _ _ 168 _ _ _ _ _); refine callE (k := 168) (fun β w' hbw => sw_ok _ _ _ _) ?_)
    | ((with_reducible show CallEv _ _ 169 _ _ _ _ _); refine callE (k := 169) (fun β w' hbw => sev_ok N no nc 0 2000 _ (hN.below hbw) hnl) ?_)
    | refine splB (fun hb => ?_) (fun hb => ?_)
    | ((with_reducible show CallEv _ _ 170 _ _ _ _ _); refine callI env mixed 1000 [23] Try.func170 has170 Try.ntmps170 (Nat.le_of_ble_eq_true rfl) rfl rfl rfl ?_)
    | ((with_reducible show CallEv _ _ 110 _ _ _ _ _); refine callI env mixed 2000 [] Try.func110 has110 Try.ntmps110 (Nat.le_of_ble_eq_true rfl) rfl rfl rfl ?_)
    | ((with_reducible show CallEv _ _ 155 _ _ _ _ _); refine callI env mixed 3000 [] Try.func155 has155 Try.ntmps155 (Nat.le_of_ble_eq_true rfl) rfl rfl rfl ?_)
  all_goals first | exact ⟨fun β => congrArg Value.bool (by simp [crOk, inB, *]; done), fun w' h => h⟩ | (exfalso; omega) | skip
  have hn : crOk N wk (C.map Rw.xs) = (C.map Rw.xs).all (rowOk N.length) := by
    simp only [crOk, inB, hcm, hb]
    rw [decide_eq_true (by omega), decide_eq_true (by omega), decide_eq_true (by omega), decide_eq_true (by omega), decide_eq_true (by omega), decide_eq_true (by omega)]
    rfl
  conv => whnf
  refine loopE (fun k : Nat => [(0, .v (.slice co C.length cc)), (1, .fn (.func 177) [.ptr 1 0]), (7, .v (iv C.length)), (8, .v (iv k))]) (fun _ => [(1, .cells [.fn (.func 171) [.ptr 0 0]] 132), (0, .cells [.v (.slice no N.length nc), .v (iv wk), .v (.slice co C.length cc)] 100)]) (fun k => k ≤ C.length ∧ ((C.map Rw.xs).take k).all (rowOk N.length) = true) (fun k => C.length - k) 0 ⟨Nat.zero_le _, rfl⟩ ⟨rfl, rfl, rfl, rfl, trivial⟩ ⟨rfl, rfl, trivial⟩ (fun _ => ⟨rfl, rfl⟩) ?_
  intro k ⟨hk, hall⟩
  rcases Nat.lt_or_ge k C.length with hkl | hkl
  · obtain ⟨⟨ro, rc, xs⟩, hx⟩ : ∃ b, C[k]? = some b := ⟨_, List.getElem?_eq_getElem hkl⟩
    obtain ⟨_, ad, rfl, _⟩ := hC.ptr (by omega)
    have e0 := fun (w' : World) hw' => rd_ati (hC.below (w' := w') hw') hx
    have hm : (C.map Rw.xs)[k]? = some xs := by rw [List.getElem?_map, hx]; rfl
    have ht := all_take (p := rowOk N.length) hm
    rw [hall, Bool.true_and] at ht
    have hr := hR _ (List.mem_of_getElem? hx)
    have hrb := hrl _ (List.mem_of_getElem? hx)
    dsimp only at hr hrb
    repeat'
     conv => whnf
     first
      | refine zA ?_ | refine zB ?_ | refine zC ?_ | refine zD ?_ | refine zE ?_ | refine zF ?_ | refine zG ?_ | refine zH ?_ | refine zJ ?_ | refine zI ?_ | refine splT ?_ | refine splF ?_ | refine splNot ?_
      | ((first | refine splIn ?_ ?_ | refine splD ?_ ?_ | refine splE ?_ ?_ | refine splNE ?_ ?_) <;> intro hc <;> first | (exfalso; omega) | (exfalso; dsimp only at hc; omega) | skip)
      | refine Exists.intro (α := List Value) [.slice ro xs.length rc] ⟨⟨rfl, fun w' hw' => e0 w' hw'⟩, ?_⟩
      | ((with_reducible show CallEv _ _ 177 _ _ _ _ _); refine callI env mixed 4000 [0,1,5,7,8] Try.func177 has177 Try.ntmps177 (Nat.le_of_ble_eq_true rfl) rfl rfl rfl ?_)
      | ((with_reducible show CallEv _ _ 171 _ _ _ _ _); refine callI env mixed 5000 [] Try.func171 has171 Try.ntmps171 (Nat.le_of_ble_eq_true rfl) rfl rfl rfl ?_)
      | ((with_reducible show CallEv _ _ 169 _ _ _ _ _); refine callE (k := 169) (fun β w' hbw => sev_ok xs ro rc 0 2000 _ (hr.below hbw) hrb) ?_)
      | refine splB (fun hb2 => ?_) (fun hb2 => ?_)
    all_goals first
      | (exfalso; omega)
      | (have hg : rowOk N.length xs = true := by simp only [rowOk, Bool.and_eq_true, decide_eq_true_eq]; exact ⟨by omega, by assumption⟩
         exact ⟨k + 1, ⟨by omega, by rw [ht, hg]⟩, by omega, Ent.weak rfl ⟨rfl, rfl, rfl, rfl, trivial⟩ ⟨rfl, rfl, trivial⟩ fun _ h => h⟩)
      | (have hg : rowOk N.length xs = false := by
           rw [Bool.eq_false_iff]; intro hc2; simp only [rowOk, Bool.and_eq_true, decide_eq_true_eq] at hc2; first | omega | (rw [hb2] at hc2; cases hc2.2)
         rw [hn, all_no hm hg]
         exact ⟨fun β => rfl, fun w' h => h⟩)
      | skip
  · rw [List.take_of_length_le (by rw [hcm]; exact hkl)] at hall
    rw [hn, hall]
    repeat'
     conv => whnf
     first
      | refine zA ?_ | refine zB ?_ | refine zC ?_ | refine zD ?_ | refine zE ?_ | refine zF ?_ | refine zG ?_ | refine zH ?_ | refine zJ ?_ | refine zI ?_ | refine splT ?_ | refine splF ?_ | refine splNot ?_
      | ((first | refine splIn ?_ ?_ | refine splD ?_ ?_ | refine splE ?_ ?_ | refine splNE ?_ ?_) <;> intro hc <;> first | (exfalso; omega) | (exfalso; dsimp only at hc; omega) | skip)
    all_goals first | exact ⟨fun β => rfl, fun w' h => h⟩ | (exfalso; omega) | skip
end Go.Proofs.Ythfabodamhdhaaa
namespace Go.Proofs.Ythfabodamhdhaaa
open Go Tx Go.RowKit
set_option linter.unusedSimpArgs false
set_option linter.unusedVariables false
structure Sy where
  p : Int
  o : Option Addr
  c : Nat
  xs : List Int
abbrev Sy.cs (s : Sy) : List Value := [iv s.p, .slice s.o s.xs.length s.c]
abbrev Sy.d (s : Sy) : Int × List Int := (s.p, s.xs)
structure SyIn (o : Option Addr) (c : Nat) (S : List Sy) (w : World) : Prop where
  s : Rd 2 Sy.cs (.slice o S.length c) S w
  r : ∀ s ∈ S, Rd 1 iF (.slice s.o s.xs.length s.c) s.xs w
  sl : S.length ≤ 1000000
  rl : ∀ s ∈ S, s.xs.length ≤ 1000000
theorem SyIn.below {o : Option Addr} {c : Nat} {S : List Sy} {w w' : World} (h : SyIn o c S w) (hb : Below w.heap.size w w') : SyIn o c S w' := ⟨h.s.below hb, fun s hs => (h.r s hs).below hb, h.sl, h.rl⟩
def stOk (n m : Nat) (s : Int × List Int) : Bool := inB s.1 0 (m - 1) && (decide (s.2.length = n) && evB s.2 0 40)
def stE (n m : Nat) (wk : Int) (SS : List (Int × List Int)) : Int := if (SS.length : Int) > wk then 3 else if SS.all (stOk n m) = true then 0 else 1
set_option maxHeartbeats 1000000 in
set_option maxRecDepth 100000 in
theorem sstays_ok (x : Cr) (o : Option Addr) (c : Nat) (S : List Sy) (w : World) (h : CrIn x w) (hS : SyIn o c S w) :
    Calls Try.prog 158 #[x.v, .slice o S.length c] w fun e w' => e = .returned (iv (stE x.N.length x.CC.length x.wk (S.map Sy.d))) ∧ Below w.heap.size w w' := by
  obtain ⟨no, nc, N, wk, co, cc, C⟩ := x
  obtain ⟨hN, hC, hR, hnl, hcl, hrl⟩ := h
  obtain ⟨hS1, hS2, hsl, hsr⟩ := hS
  dsimp only at hN hC hR hnl hcl hrl ⊢
  refine calls_val env mixed Try.func158 has158 Try.ntmps158 [.agg #[.slice no N.length nc, iv wk, .slice co C.length cc], .slice o S.length c] (by simp) ?_
  have hcm : (C.map Rw.xs).length = C.length := List.length_map ..
  have hsm : (S.map Sy.d).length = S.length := List.length_map ..
  rw [stE, hsm, hcm]
  by_cases h0 : (S.length : Int) > wk
  · rw [if_pos h0]
    repeat'
     conv => whnf
     first
      | refine zA ?_ | refine zB ?_ | refine zC ?_ | refine zD ?_ | refine zE ?_ | refine zF ?_ | refine zG ?_ | refine zH ?_ | refine zJ ?_ | refine zI ?_ | refine splT ?_ | refine splF ?_ | refine splNot ?_
      | ((first | refine splIn ?_ ?_ | refine splD ?_ ?_ | refine splE ?_ ?_ | refine splNE ?_ ?_) <;> intro hc <;> first | (exfalso; omega) | (exfalso; dsimp only at hc; omega) | skip)
    all_goals first | (exfalso; omega) | exact ⟨fun β => rfl, fun w' h => h⟩ | skip
  rw [if_neg h0]
  repeat'
   conv => whnf
   first
    | refine zA ?_ | refine zB ?_ | refine zC ?_ | refine zD ?_ | refine zE ?_ | refine zF ?_ | refine zG ?_ | refine zH ?_ | refine zJ ?_ | refine zI ?_ | refine splT ?_ | refine splF ?_ | refine splNot ?_
    | ((first | refine splIn ?_ ?_ | refine splD ?_ ?_ | refine splE ?_ ?_ | refine splNE ?_ ?_) <;> intro hc <;> first | (exfalso; omega) | (exfalso; dsimp only at hc; omega) | skip)
    | ((with_reducible show CallEv _ _ 173 _ _ _ _ _); refine callI env mixed 1000 [] Try.func173 has173 Try.ntmps173 (Nat.le_of_ble_eq_true rfl) rfl rfl rfl ?_)
    | ((with_reducible show CallEv _ _ 178 _ _ _ _ _); refine callI env mixed 2000 [] Try.func178 has178 Try.ntmps178 (Nat.le_of_ble_eq_true rfl) rfl rfl rfl ?_)
    | ((with_reducible show CallEv _ _ 181 _ _ _ _ _); refine callI env mixed 3000 [] Try.func181 has181 Try.ntmps181 (Nat.le_of_ble_eq_true rfl) rfl rfl rfl ?_)
  all_goals first | (exfalso; omega) | skip
  conv => whnf
  refine loopE (fun k : Nat => [(0, .v (.slice o S.length c)), (1, .fn (.func 179) [.ptr 1 0]), (7, .v (iv S.length)), (8, .v (iv k))]) (fun _ => [(1, .cells [.fn (.func 172) [.ptr 0 0]] 204), (0, .cells [.v (.slice no N.length nc), .v (iv wk), .v (.slice co C.length cc)] 100)]) (fun k => k ≤ S.length ∧ ((S.map Sy.d).take k).all (stOk N.length C.length) = true) (fun k => S.length - k) 0 ⟨Nat.zero_le _, rfl⟩ ⟨rfl, rfl, rfl, rfl, trivial⟩ ⟨rfl, rfl, trivial⟩ (fun _ => ⟨rfl, rfl⟩) ?_
  intro k ⟨hk, hall⟩
  rcases Nat.lt_or_ge k S.length with hkl | hkl
  · obtain ⟨⟨sp, so, sc, xs⟩, hx⟩ : ∃ b, S[k]? = some b := ⟨_, List.getElem?_eq_getElem hkl⟩
    obtain ⟨_, ad, rfl, _⟩ := hS1.ptr (by omega)
    have e0 := fun (w' : World) hw' => rd_ati (hS1.below (w' := w') hw') hx
    have hm : (S.map Sy.d)[k]? = some (sp, xs) := by rw [List.getElem?_map, hx]; rfl
    have ht := all_take (p := stOk N.length C.length) hm
    rw [hall, Bool.true_and] at ht
    have hr := hS2 _ (List.mem_of_getElem? hx)
    have hrb := hsr _ (List.mem_of_getElem? hx)
    dsimp only at hr hrb
    repeat'
     conv => whnf
     first
      | refine zA ?_ | refine zB ?_ | refine zC ?_ | refine zD ?_ | refine zE ?_ | refine zF ?_ | refine zG ?_ | refine zH ?_ | refine zJ ?_ | refine zI ?_ | refine splT ?_ | refine splF ?_ | refine splNot ?_
      | ((first | refine splIn ?_ ?_ | refine splD ?_ ?_ | refine splE ?_ ?_ | refine splNE ?_ ?_) <;> intro hc <;> first | (exfalso; omega) | (exfalso; dsimp only at hc; omega) | skip)
      | refine Exists.intro (α := List Value) [iv sp, .slice so xs.length sc] ⟨⟨rfl, fun w' hw' => e0 w' hw'⟩, ?_⟩
      | ((with_reducible show CallEv _ _ 179 _ _ _ _ _); refine callI env mixed 4000 [0,1,5,7,8] Try.func179 has179 Try.ntmps179 (Nat.le_of_ble_eq_true rfl) rfl rfl rfl ?_)
      | ((with_reducible show CallEv _ _ 172 _ _ _ _ _); refine callI env mixed 5000 [] Try.func172 has172 Try.ntmps172 (Nat.le_of_ble_eq_true rfl) rfl rfl rfl ?_)
      | ((with_reducible show CallEv _ _ 168 _ _ _ _ _); refine callE (k := 168) (fun β w' hbw => sw_ok _ _ _ _) ?_)
      | ((with_reducible show CallEv _ _ 169 _ _ _ _ _); refine callE (k := 169) (fun β w' hbw => sev_ok xs so sc 0 40 _ (hr.below hbw) hrb) ?_)
      | refine splB (fun hb2 => ?_) (fun hb2 => ?_)
    all_goals first
      | (exfalso; omega)
      | (have hg : stOk N.length C.length (sp, xs) = true := by simp only [stOk, inB, Bool.and_eq_true, decide_eq_true_eq]; exact ⟨by omega, by omega, by assumption⟩
         exact ⟨k + 1, ⟨by omega, by rw [ht, hg]⟩, by omega, Ent.weak rfl ⟨rfl, rfl, rfl, rfl, trivial⟩ ⟨rfl, rfl, trivial⟩ fun _ h => h⟩)
      | (have hg : stOk N.length C.length (sp, xs) = false := by
           rw [Bool.eq_false_iff]; intro hc2; simp only [stOk, inB, Bool.and_eq_true, decide_eq_true_eq] at hc2; first | omega | (rw [hb2] at hc2; cases hc2.2.2)
         rw [all_no hm hg]
         exact ⟨fun β => rfl, fun w' h => h⟩)
      | skip
  · rw [List.take_of_length_le (by rw [hsm]; exact hkl)] at hall
    rw [hall]
    repeat'
     conv => whnf
     first
      | refine zA ?_ | refine zB ?_ | refine zC ?_ | refine zD ?_ | refine zE ?_ | refine zF ?_ | refine zG ?_ | refine zH ?_ | refine zJ ?_ | refine zI ?_ | refine splT ?_ | refine splF ?_ | refine splNot ?_
      | ((first | refine splIn ?_ ?_ | refine splD ?_ ?_ | refine splE ?_ ?_ | refine splNE ?_ ?_) <;> intro hc <;> first | (exfalso; omega) | (exfalso; dsimp only at hc; omega) | skip)
    all_goals first | exact ⟨fun β => rfl, fun w' h => h⟩ | (exfalso; omega) | skip
def ckE (N : List Int) (wk : Int) (CC : List (List Int)) (SS : List (Int × List Int)) : Int := if crOk N wk CC = true then stE N.length CC.length wk SS else 1
theorem scheck_ok (x : Cr) (o : Option Addr) (c : Nat) (S : List Sy) (w : World) (h : CrIn x w) (hS : SyIn o c S w) :
    Calls Try.prog 119 #[x.v, .slice o S.length c] w fun e w' => e = .returned (iv (ckE x.N x.wk x.CC (S.map Sy.d))) ∧ Below w.heap.size w w' := by
  refine calls_val env mixed Try.func119 has119 Try.ntmps119 [x.v, .slice o S.length c] (by simp) ?_
  have hv := fun w' hb => svalid_ok x w' (h.below hb)
  have hs := fun w' hb => sstays_ok x o c S w' (h.below hb) (hS.below hb)
  obtain ⟨no, nc, N, wk, co, cc, C⟩ := x
  dsimp only at hv hs ⊢
  rw [ckE]
  cases hc : crOk N wk (C.map Rw.xs) with
  | true =>
    rw [hc] at hv
    rw [if_pos rfl]
    repeat'
     conv => whnf
     first
      | refine zA ?_ | refine zB ?_ | refine zC ?_ | refine zD ?_ | refine zE ?_ | refine zF ?_ | refine zG ?_ | refine zH ?_ | refine zJ ?_ | refine zI ?_ | refine splT ?_ | refine splF ?_ | refine splNot ?_
      | ((first | refine splIn ?_ ?_ | refine splD ?_ ?_ | refine splE ?_ ?_ | refine splNE ?_ ?_) <;> intro hc <;> first | (exfalso; omega) | (exfalso; dsimp only at hc; omega) | skip)
      | ((with_reducible show CallEv _ _ 157 _ _ _ _ _); refine callE (k := 157) (fun β w' hbw => hv _ hbw) ?_)
      | ((with_reducible show CallEv _ _ 158 _ _ _ _ _); refine callE (k := 158) (fun β w' hbw => hs _ hbw) ?_)
    all_goals exact ⟨fun β => rfl, fun w' h => h⟩
  | false =>
    rw [hc] at hv
    rw [if_neg (by decide)]
    repeat'
     conv => whnf
     first
      | refine zA ?_ | refine zB ?_ | refine zC ?_ | refine zD ?_ | refine zE ?_ | refine zF ?_ | refine zG ?_ | refine zH ?_ | refine zJ ?_ | refine zI ?_ | refine splT ?_ | refine splF ?_ | refine splNot ?_
      | ((first | refine splIn ?_ ?_ | refine splD ?_ ?_ | refine splE ?_ ?_ | refine splNE ?_ ?_) <;> intro hc <;> first | (exfalso; omega) | (exfalso; dsimp only at hc; omega) | skip)
      | ((with_reducible show CallEv _ _ 157 _ _ _ _ _); refine callE (k := 157) (fun β w' hbw => hv _ hbw) ?_)
    all_goals exact ⟨fun β => rfl, fun w' h => h⟩
end Go.Proofs.Ythfabodamhdhaaa
namespace Go.Proofs.Ythfabodamhdhaaa
open Go Tx Go.RowKit
set_option linter.unusedSimpArgs false
set_option linter.unusedVariables false
def gt (L : List Int) (j : Nat) : Int := (L[j]?).getD 0
def rwA (CC : List (List Int)) (p : Int) : List Int := (CC[p.toNat]?).getD []
def tmS (CC : List (List Int)) (j : Nat) (s : Int × List Int) : Int := gt s.2 j * gt (rwA CC s.1) j
def hsS (CC : List (List Int)) (SS : List (Int × List Int)) (j : Nat) : Int := (SS.map (tmS CC j)).sum
def hsV (CC : List (List Int)) (SS : List (Int × List Int)) (j : Nat) : Int := (hsS CC SS j).tdiv 1000
def lfV (N : List Int) (CC : List (List Int)) (SS : List (Int × List Int)) (j : Nat) : Int := imax 0 (gt N j - hsV CC SS j)
theorem hsS_take {CC : List (List Int)} {SS : List (Int × List Int)} {j k : Nat} {s : Int × List Int} (h : SS[k]? = some s) : hsS CC (SS.take (k + 1)) j = hsS CC (SS.take k) j + tmS CC j s := by
  rw [hsS, List.take_add_one, h]; simp [hsS]
theorem quoT {k : IntKind} {a b : Int} {K : Int → Prop} (h1 : b ≠ 0) (h2 : IR k (a.tdiv b)) (h : K (a.tdiv b)) : ∃ q : Int, (b ≠ 0 ∧ a.tdiv b = q ∧ IR k q) ∧ K q := ⟨_, ⟨h1, rfl, h2⟩, h⟩
structure YrOk (N : List Int) (wk : Int) (CC : List (List Int)) (SS : List (Int × List Int)) : Prop where
  n6 : 1 ≤ N.length ∧ N.length ≤ 6
  nb : ∀ n ∈ N, 0 ≤ n ∧ n ≤ 2000
  w : 1 ≤ wk ∧ wk ≤ 60
  c1 : 1 ≤ CC.length ∧ CC.length ≤ 20
  r : ∀ l ∈ CC, l.length = N.length ∧ ∀ n ∈ l, 0 ≤ n ∧ n ≤ 2000
  sl : (SS.length : Int) ≤ wk
  s : ∀ s ∈ SS, (0 ≤ s.1 ∧ s.1 < CC.length) ∧ s.2.length = N.length ∧ ∀ n ∈ s.2, 0 ≤ n ∧ n ≤ 40
theorem evB_iff {L : List Int} {lo hi : Int} (h : evB L lo hi = true) : ∀ n ∈ L, lo ≤ n ∧ n ≤ hi := fun n hn => by
  have := List.all_eq_true.1 h n hn
  simpa [inB] using this
theorem YrOk.of {N : List Int} {wk : Int} {CC : List (List Int)} {SS : List (Int × List Int)} (h : ckE N wk CC SS = 0) : YrOk N wk CC SS := by
  unfold ckE at h
  split at h
  case isFalse => cases h
  rename_i h1
  unfold stE at h
  split at h
  case isTrue => cases h
  rename_i h2
  split at h
  case isFalse => cases h
  rename_i h3
  simp only [crOk, inB, Bool.and_eq_true, decide_eq_true_eq] at h1
  obtain ⟨⟨⟨⟨h4, h5⟩, h6⟩, h7⟩, h8⟩ := h1
  refine ⟨by omega, evB_iff h5, h6, by omega, fun l hl => ?_, by omega, fun s hs => ?_⟩
  · have := List.all_eq_true.1 h8 l hl
    simp only [rowOk, Bool.and_eq_true, decide_eq_true_eq] at this
    exact ⟨this.1, evB_iff this.2⟩
  · have := List.all_eq_true.1 h3 s hs
    simp only [stOk, inB, Bool.and_eq_true, decide_eq_true_eq] at this
    exact ⟨by omega, this.2.1, evB_iff this.2.2⟩
theorem gt_some {L : List Int} {j : Nat} {n : Int} (h : L[j]? = some n) : gt L j = n := by simp [gt, h]
theorem YrOk.tm {N : List Int} {wk : Int} {CC : List (List Int)} {SS : List (Int × List Int)} (h : YrOk N wk CC SS) (j : Nat) {s : Int × List Int} (hs : s ∈ SS) : 0 ≤ tmS CC j s ∧ tmS CC j s ≤ 80000 := by
  obtain ⟨h1, h2, h3⟩ := h.s s hs
  have a : 0 ≤ gt s.2 j ∧ gt s.2 j ≤ 40 := by
    unfold gt
    cases hj : s.2[j]? with
    | none => simp
    | some n => exact h3 n (List.mem_of_getElem? hj)
  have b : 0 ≤ gt (rwA CC s.1) j ∧ gt (rwA CC s.1) j ≤ 2000 := by
    unfold gt rwA
    cases hc : CC[s.1.toNat]? with
    | none => simp
    | some l =>
      simp only [Option.getD_some]
      cases hj : l[j]? with
      | none => simp
      | some n => exact (h.r l (List.mem_of_getElem? hc)).2 n (List.mem_of_getElem? hj)
  unfold tmS
  refine ⟨Int.mul_nonneg a.1 b.1, ?_⟩
  have := Int.mul_le_mul a.2 b.2 b.1 (by omega : (0 : Int) ≤ 40)
  omega
theorem YrOk.bd {N : List Int} {wk : Int} {CC : List (List Int)} {SS : List (Int × List Int)} (h : YrOk N wk CC SS) (j : Nat) : ∀ k, 0 ≤ hsS CC (SS.take k) j ∧ hsS CC (SS.take k) j ≤ 80000 * k
  | 0 => by simp [hsS]
  | k + 1 => by
    have ih := h.bd j k
    cases hx : SS[k]? with
    | none =>
      rw [List.getElem?_eq_none_iff] at hx
      rw [List.take_of_length_le (show SS.length ≤ k + 1 by omega)]
      rw [List.take_of_length_le hx] at ih
      omega
    | some s =>
      have := h.tm j (List.mem_of_getElem? hx)
      rw [hsS_take hx]
      omega
theorem YrOk.bdl {N : List Int} {wk : Int} {CC : List (List Int)} {SS : List (Int × List Int)} (h : YrOk N wk CC SS) (j : Nat) : 0 ≤ hsS CC SS j ∧ hsS CC SS j ≤ 4800000 := by
  have := h.bd j SS.length
  rw [List.take_of_length_le (Nat.le_refl _)] at this
  have := h.sl
  have := h.w
  omega
theorem tdiv_bd {a b : Int} (h : 0 ≤ a) (hb : 0 < b) : 0 ≤ a.tdiv b ∧ a.tdiv b ≤ a := by
  rw [Int.tdiv_eq_ediv_of_nonneg h]
  exact ⟨Int.ediv_nonneg h (by omega), Int.ediv_le_self _ h⟩
theorem YrOk.hv {N : List Int} {wk : Int} {CC : List (List Int)} {SS : List (Int × List Int)} (h : YrOk N wk CC SS) (j : Nat) : 0 ≤ hsV CC SS j ∧ hsV CC SS j ≤ 4800000 := by
  have := h.bdl j
  have := tdiv_bd this.1 (show (0 : Int) < 1000 by omega)
  unfold hsV; omega
theorem YrOk.gn {N : List Int} {wk : Int} {CC : List (List Int)} {SS : List (Int × List Int)} (h : YrOk N wk CC SS) (j : Nat) : 0 ≤ gt N j ∧ gt N j ≤ 2000 := by
  unfold gt
  cases hj : N[j]? with
  | none => simp
  | some n => exact h.nb n (List.mem_of_getElem? hj)
abbrev Cr.ch (x : Cr) (s : Value) : Value := .agg #[.slice x.no x.N.length x.nc, iv x.wk, .slice x.co x.C.length x.cc, s]
set_option maxHeartbeats 1000000 in
set_option maxRecDepth 100000 in
theorem hasC_ok (x : Cr) (o : Option Addr) (c : Nat) (S : List Sy) (j : Nat) (w : World) (h : CrIn x w) (hS : SyIn o c S w) (hy : YrOk x.N x.wk x.CC (S.map Sy.d)) (hj : j < x.N.length) :
    Calls Try.prog 121 #[x.ch (.slice o S.length c), iv j] w fun e w' => e = .returned (iv (hsV x.CC (S.map Sy.d) j)) ∧ Below w.heap.size w w' := by
  obtain ⟨no, nc, N, wk, co, cc, C⟩ := x
  obtain ⟨hN, hC, hR, hnl, hcl, hrl⟩ := h
  obtain ⟨hS1, hS2, hsl, hsr⟩ := hS
  dsimp only at hN hC hR hnl hcl hrl hj ⊢
  change YrOk N wk (C.map Rw.xs) (S.map Sy.d) at hy
  show Calls _ _ _ _ fun e w' => e = .returned (iv (hsV (C.map Rw.xs) (S.map Sy.d) j)) ∧ _
  refine calls_val env mixed Try.func121 has121 Try.ntmps121 [.agg #[.slice no N.length nc, iv wk, .slice co C.length cc, .slice o S.length c], iv j] (by simp) ?_
  have hcm : (C.map Rw.xs).length = C.length := List.length_map ..
  have hsm : (S.map Sy.d).length = S.length := List.length_map ..
  have h60 := hy.sl
  have h61 := hy.w
  rw [hsm] at h60
  repeat'
   conv => whnf
   first
    | refine zA ?_ | refine zB ?_ | refine zC ?_ | refine zD ?_ | refine zE ?_ | refine zF ?_ | refine zG ?_ | refine zH ?_ | refine zJ ?_ | refine zI ?_ | refine splT ?_ | refine splF ?_ | refine splNot ?_
    | ((first | refine splIn ?_ ?_ | refine splD ?_ ?_ | refine splE ?_ ?_ | refine splNE ?_ ?_) <;> intro hc <;> first | (exfalso; omega) | (exfalso; dsimp only at hc; omega) | skip)
  refine loopE (fun k : Nat => [(1, .v (iv j)), (2, .ptr 0 0), (5, .v (iv (hsS (C.map Rw.xs) ((S.map Sy.d).take k) j))), (9, .v (.slice o S.length c)), (10, .v (iv S.length)), (11, .v (iv k))]) (fun _ => [(0, .cells [.v (.slice no N.length nc), .v (iv wk), .v (.slice co C.length cc), .v (.slice o S.length c)] 183)]) (fun k => k ≤ S.length) (fun k => S.length - k) 0 (Nat.zero_le _) ⟨rfl, rfl, rfl, rfl, rfl, rfl, trivial⟩ ⟨rfl, trivial⟩ (fun _ => ⟨rfl, rfl⟩) ?_
  intro k hk
  have hbd := hy.bd j k
  rcases Nat.lt_or_ge k S.length with hkl | hkl
  · obtain ⟨⟨sp, so, sc, xs⟩, hx⟩ : ∃ b, S[k]? = some b := ⟨_, List.getElem?_eq_getElem hkl⟩
    obtain ⟨_, ad, rfl, _⟩ := hS1.ptr (by omega)
    have e1 := fun (w' : World) hw' => rd_ati (hS1.below (w' := w') hw') hx
    have hm : (S.map Sy.d)[k]? = some (sp, xs) := by rw [List.getElem?_map, hx]; rfl
    have hr := hS2 _ (List.mem_of_getElem? hx)
    have hso := hy.s _ (List.mem_of_getElem? hm)
    have htb := hy.tm j (List.mem_of_getElem? hm)
    have hst := hsS_take (CC := C.map Rw.xs) (j := j) hm
    dsimp only at hr hso
    obtain ⟨⟨hp0, hp1⟩, hxl, hxb⟩ := hso
    obtain ⟨q, rfl⟩ := Int.eq_ofNat_of_zero_le hp0
    rw [hcm] at hp1
    obtain ⟨⟨ro, rc, ys⟩, hq⟩ : ∃ b, C[q]? = some b := ⟨_, List.getElem?_eq_getElem (by omega)⟩
    have hqm : (C.map Rw.xs)[q]? = some ys := by rw [List.getElem?_map, hq]; rfl
    obtain ⟨hyl, hyb⟩ := hy.r _ (List.mem_of_getElem? hqm)
    have hrr := hR _ (List.mem_of_getElem? hq)
    change Rd 1 iF (.slice ro ys.length rc) ys w at hrr
    obtain ⟨a, ha⟩ : ∃ b, xs[j]? = some b := ⟨_, List.getElem?_eq_getElem (by omega)⟩
    obtain ⟨b, hb⟩ : ∃ b, ys[j]? = some b := ⟨_, List.getElem?_eq_getElem (by omega)⟩
    have htm : tmS (C.map Rw.xs) j ((q : Int), xs) = a * b := by
      unfold tmS rwA
      rw [gt_some ha, Int.toNat_natCast, hqm, Option.getD_some, gt_some hb]
    rw [htm] at htb hst
    obtain ⟨_, adc, rfl, _⟩ := hC.ptr (by omega)
    obtain ⟨_, adx, rfl, _⟩ := hr.ptr (by omega)
    obtain ⟨_, ady, rfl, _⟩ := hrr.ptr (by omega)
    have ec := fun (w' : World) hw' => rd_ati (hC.below (w' := w') hw') hq
    have ex := fun (w' : World) hw' => rd_ati (hr.below (w' := w') hw') ha
    have ey := fun (w' : World) hw' => rd_ati (hrr.below (w' := w') hw') hb
    repeat'
     conv => whnf
     first
      | refine zA ?_ | refine zB ?_ | refine zC ?_ | refine zD ?_ | refine zE ?_ | refine zF ?_ | refine zG ?_ | refine zH ?_ | refine zJ ?_ | refine zI ?_ | refine splT ?_ | refine splF ?_ | refine splNot ?_
      | ((first | refine splIn ?_ ?_ | refine splD ?_ ?_ | refine splE ?_ ?_ | refine splNE ?_ ?_) <;> intro hc <;> first | (exfalso; omega) | (exfalso; dsimp only at hc; omega) | skip)
      | refine Exists.intro (α := List Value) [iv q, .slice (some adx) xs.length sc] ⟨⟨rfl, fun w' hw' => e1 w' hw'⟩, ?_⟩
      | refine Exists.intro (α := List Value) [.slice (some ady) ys.length rc] ⟨⟨rfl, fun w' hw' => ec w' hw'⟩, ?_⟩
      | refine Exists.intro (α := List Value) [iv a] ⟨⟨rfl, fun w' hw' => ex w' hw'⟩, ?_⟩
      | refine Exists.intro (α := List Value) [iv b] ⟨⟨rfl, fun w' hw' => ey w' hw'⟩, ?_⟩
    all_goals first
      | (exfalso; omega)
      | exact ⟨k + 1, by omega, by omega, Ent.weak rfl ⟨rfl, rfl, by rw [hst]; rfl, rfl, rfl, rfl, trivial⟩ ⟨rfl, trivial⟩ fun _ h => h⟩
      | skip
  · rw [List.take_of_length_le (by rw [hsm]; exact hkl)] at hbd ⊢
    have hv := hy.hv j
    unfold hsV at hv ⊢
    repeat'
     conv => whnf
     first
      | refine zA ?_ | refine zB ?_ | refine zC ?_ | refine zD ?_ | refine zE ?_ | refine zF ?_ | refine zG ?_ | refine zH ?_ | refine zJ ?_ | refine zI ?_ | refine splT ?_ | refine splF ?_ | refine splNot ?_
      | ((first | refine splIn ?_ ?_ | refine splD ?_ ?_ | refine splE ?_ ?_ | refine splNE ?_ ?_) <;> intro hc <;> first | (exfalso; omega) | (exfalso; dsimp only at hc; omega) | skip)
      | refine quoT (by omega) (And.intro (by omega) (by omega)) ?_
    all_goals first | exact ⟨fun β => rfl, fun w' h => h⟩ | (exfalso; omega) | skip
set_option maxHeartbeats 1000000 in
set_option maxRecDepth 100000 in
theorem leftC_ok (x : Cr) (o : Option Addr) (c : Nat) (S : List Sy) (j : Nat) (w : World) (h : CrIn x w) (hS : SyIn o c S w) (hy : YrOk x.N x.wk x.CC (S.map Sy.d)) (hj : j < x.N.length) :
    Calls Try.prog 122 #[x.ch (.slice o S.length c), iv j] w fun e w' => e = .returned (iv (lfV x.N x.CC (S.map Sy.d) j)) ∧ Below w.heap.size w w' := by
  have hc := fun w' hb => hasC_ok x o c S j w' (h.below hb) (hS.below hb) hy hj
  obtain ⟨no, nc, N, wk, co, cc, C⟩ := x
  have hN := h.n
  have hhv := hy.hv j
  have hgn := hy.gn j
  have hsl := hS.sl
  have hw := hy.w
  have hs60 := hy.sl
  have hsm : (S.map Sy.d).length = S.length := List.length_map ..
  rw [hsm] at hs60
  dsimp only at hN hj hc hw hs60 ⊢
  change 0 ≤ hsV (C.map Rw.xs) (S.map Sy.d) j ∧ hsV (C.map Rw.xs) (S.map Sy.d) j ≤ 4800000 at hhv
  have hc2 : ∀ w', Below w.heap.size w w' → Calls Try.prog 121 #[.agg #[.slice no N.length nc, iv wk, .slice co C.length cc, .slice o S.length c], iv j] w' fun e w1 => e = .returned (iv (hsV (C.map Rw.xs) (S.map Sy.d) j)) ∧ Below w'.heap.size w' w1 := hc
  clear hc
  refine calls_val env mixed Try.func122 has122 Try.ntmps122 [.agg #[.slice no N.length nc, iv wk, .slice co C.length cc, .slice o S.length c], iv j] (by simp) ?_
  obtain ⟨n, hn⟩ : ∃ b, N[j]? = some b := ⟨_, List.getElem?_eq_getElem hj⟩
  obtain ⟨_, ad, rfl, _⟩ := hN.ptr (by omega)
  have en := fun (w' : World) hw' => rd_ati (hN.below (w' := w') hw') hn
  rw [gt_some hn] at hgn
  show vc _ _ _ (endΦ _ _ fun s σ => (∀ β, s.c β = iv (lfV N (C.map Rw.xs) (S.map Sy.d) j)) ∧ _)
  rw [lfV, gt_some hn]
  repeat'
   conv => whnf
   first
    | refine zA ?_ | refine zB ?_ | refine zC ?_ | refine zD ?_ | refine zE ?_ | refine zF ?_ | refine zG ?_ | refine zH ?_ | refine zJ ?_ | refine zI ?_ | refine splT ?_ | refine splF ?_ | refine splNot ?_
    | ((first | refine splIn ?_ ?_ | refine splD ?_ ?_ | refine splE ?_ ?_ | refine splNE ?_ ?_) <;> intro hc <;> first | (exfalso; omega) | (exfalso; dsimp only at hc; omega) | skip)
    | refine Exists.intro (α := List Value) [iv n] ⟨⟨rfl, fun w' hw' => en w' hw'⟩, ?_⟩
    | ((with_reducible show CallEv _ _ 121 _ _ _ _ _); refine callE (k := 121) (fun β w' hbw => hc2 _ hbw) ?_)
  all_goals first | exact ⟨fun β => rfl, fun w' h => h⟩ | (exfalso; omega) | skip
end Go.Proofs.Ythfabodamhdhaaa
namespace Go.Proofs.Ythfabodamhdhaaa.Tx
open Go Go.RowKit
set_option linter.unusedSimpArgs false
set_option linter.unusedVariables false
theorem mkC {P : Program} (T : Env P) {dst : Option Tmp} {ty : TypeId} {pos : String} {after : Array Edge} {gd : Option (Nat × Bool)} {gs : List Nat} {σ : Sg} {K : Ef → Prop} {KF : Option KT} {t e : Nat} {x : Operand} (nb m : Nat) (l : List SV)
 {sz : Nat} {zr : List Value} {by_ : Nat} {ti : TI} (hx : gv σ x = some (.v (iv m))) (ht : T.ty t = some ⟨sz, zr, by_, .slice e⟩) (he : T.ty e = some ti)
 (h01 : 0 < ti.size) (h03 : ti.zero.length = ti.size) (hm : m ≤ 100) (hby : ti.bytes ≤ 100000) (hm1 : 0 < m) (hxs : l = ((List.replicate m ti.zero).flatten).map .v)
 (hB : efB σ ⟨.sl nb 0 m m, [nb], [(nb, .cells l e)], gs ++ os x, []⟩ = true) (hK : K ⟨.sl nb 0 m m, [nb], [(nb, .cells l e)], gs ++ os x, []⟩) :
 OpEvS P ⟨dst, .makeSlice t x x, ty, pos, after, gd⟩ gs σ K KF := by
 subst hxs
 refine .mk _ hB (fun k hk => by simp [hk]) rfl (fun β a w hss => ?_) hK
 have e1 := gv_eval hss hx (fun k hk => by simp [hk])
 have hzl : ((List.replicate m ti.zero).flatten).length = m * ti.size := by
  simp [List.length_flatten, h03]
 refine ⟨fun j => if j = nb then w.heap.size else β j, w.alloc (.cells ((List.replicate m ti.zero).flatten).toArray e), ⟨fun i hi => ?_, ⟨rfl, rfl, rfl, by show w.heap.size ≤ (w.heap.push _).size; rw [Array.size_push]; omega, fun b hb _ => ?_⟩, fun i bk hi => ?_, fun i hi hL => ?_, fun i hi j hj hL hL' hne => ?_⟩, .inl ?_⟩
 · simp only [List.mem_cons, List.not_mem_nil, or_false, not_or] at hi
   simp [hi]
 · simp only [World.alloc, Array.getElem?_push]
   rw [if_neg (show ¬ b = w.heap.size by omega)]
 · simp only [List.mem_singleton, Prod.mk.injEq] at hi
   obtain ⟨rfl, rfl⟩ := hi
   simp only [Blk.ok, if_true]
   show (w.heap.push _)[w.heap.size]? = _
   rw [Array.getElem?_push, if_pos rfl, cs_v]
 · obtain ⟨bk, hbk, _⟩ := hL
   simp only [List.mem_singleton, Prod.mk.injEq] at hbk
   obtain ⟨rfl, _⟩ := hbk
   exact .inl (by simp)
 · obtain ⟨bk, hbk, _⟩ := hL
   obtain ⟨bk', hbk', _⟩ := hL'
   simp only [List.mem_singleton, Prod.mk.injEq] at hbk hbk'
   exact absurd (hbk.1.trans hbk'.1.symm) hne
 obtain ⟨i, z, q1, q2, q3, q4, q5⟩ := (T.tok e ti he).row
 have hu := under_slice (T.tok t _ ht) rfl
 have hzc : (Array.range (m * ti.size)).map (fun i => z.cells[i % z.cells.size]!) = (List.replicate m ti.zero).flatten.toArray := by
  have hzz : z.cells = ti.zero.toArray := by rw [← q4]
  have hzs : z.cells.size = ti.size := by rw [hzz]; simpa using h03
  have := rep_zero (z := ti.zero) (by omega) m
  rw [h03] at this
  rw [← this, hzs, hzz]
 have hw1 : IntKind.i64.wrap (m : Int) = m := IR.wrap (And.intro (by omega) (by omega))
 simp only [execOp, Instr.makeSlice, Sem.run_bind, Go.run_underlying hu w, Result.andThen_ok, e1, SV.c, asInt, asIntOf, Sem.run_pure, hw1, if_true]
 have hti : (typeInfo e).run P w = .ok i w := by simp [typeInfo, q1]
 have hb2 : (i.bytes : Int) * m ≤ 100000 * 100 := by
  rw [q5]
  exact Int.mul_le_mul (by omega) (by omega) (by omega) (by omega)
 have c1 : (decide ((m : Int) < 0) || decide ((i.bytes : Int) * m > 2 ^ 48) || decide ((m : Int) < 0) || decide ((m : Int) > m)) = false := by
  simp; omega
 rw [hti]
 simp only [Result.andThen_ok, c1, Bool.false_eq_true, if_false, Sem.run_bind, askRoom, Int.toNat_natCast]
 have hroom : ¬ (m * i.bytes > roomBytes) := by
  have h2 : m * ti.bytes ≤ 100 * 100000 := Nat.mul_le_mul hm hby
  rw [q5]
  simp only [roomBytes]
  omega
 rw [if_neg hroom]
 simp only [Sem.run_pure, Result.andThen_ok, (T.tok e ti he).run_sizeOf w]
 have hm0 : ¬ m * ti.size = 0 := by
  have := Nat.mul_pos hm1 h01
  omega
 rw [if_neg hm0]
 have hzr : (zeroValue e).run P w = .ok z w := by simp [zeroValue, typeInfo, q1, q3]
 simp only [Sem.run_bind, hzr, Sem.run_pure, Result.andThen_ok]
 rw [hzc]
 simp [newRow, SV.c]
theorem appF {P : Program} (T : Env P) {dst : Option Tmp} {ty : TypeId} {pos : String} {after : Array Edge} {gd : Option (Nat × Bool)} {gs : List Nat} {σ : Sg} {K : Ef → Prop} {x y : Operand} {t e : TypeId} {size bytes : Nat} {zero : List Value} {kd : TK} {sz : Nat} {zr : List Value} {by_ : Nat}
 (i2 m c2 : Nat) (news : List Value) (ty2 : TypeId) (ad : Addr) (n1 c1 : Nat) (xs : List Value)
 (hx : gv σ x = some (.v (.slice (some ad) n1 c1))) (hy : gv σ y = some (.sl i2 0 m c2)) (hm2 : lk σ.m i2 = some (.cells (news.map .v) ty2)) (ht : T.ty t = some ⟨sz, zr, by_, .slice e⟩) (he : T.ty e = some ⟨size, zero, bytes, kd⟩)
 (h02 : 0 < size) (h03 : zero.length = size) (hnews : news.length = m * size) (hxl : xs.length = n1 * size) (hc : c1 < n1 + m) (c2' : n1 + m ≤ 9223372036854775807) (c3 : (n1 + m) * bytes ≤ 140737488355328)
 (hrd : ∀ w, σ.h w → ∀ j v, xs[j]? = some v → w.cell? (ad.add j) = some v)
 (hB : efB σ ⟨.os σ.nb (σ.nb + 1) (n1 + m), [σ.nb, σ.nb + 1], [(σ.nb, .own (σ.nb + 1) (n1 + m) size (xs ++ news) e)], gs ++ (os x ++ os y), [i2]⟩ = true)
 (hK : K ⟨.os σ.nb (σ.nb + 1) (n1 + m), [σ.nb, σ.nb + 1], [(σ.nb, .own (σ.nb + 1) (n1 + m) size (xs ++ news) e)], gs ++ (os x ++ os y), [i2]⟩) :
 OpEv P ⟨dst, .call ⟨.builtin .append, #[x, y], #[t, t]⟩, ty, pos, after, gd⟩ gs σ K := by
 refine .mk _ hB (fun k hk => by simp [hk]) rfl (fun β a w hs => ?_) hK
 have hu := under_slice (T.tok t _ ht) rfl
 obtain ⟨i0, z, q1, q2, q3, q4, q5⟩ := (T.tok e _ he).row
 have q2 : i0.size = size := q2
 have q5 : i0.bytes = bytes := q5
 have hzs : z.cells.size = size := by rw [← h03]; exact congrArg List.length q4
 have e1 := gv_eval hs hx (fun k hk => by simp [hk])
 have e2 := gv_eval hs hy (fun k hk => by simp [hk])
 have e3 : w.heap[β i2]? = some (.cells news.toArray ty2 (0, 0)) := by
  have := hs.m i2 (by simp) _ hm2
  simp only [Blk.ok, cs_v] at this
  exact this
 have hcells : ∀ j u, news[j]? = some u → w.cell? ((⟨β i2, 0, none⟩ : Addr).add j) = some u := fun j u hj => by
  rw [own_add, cell_of_row w (β i2) (0 + j) _ ty2 (0, 0) e3, List.getElem?_toArray, Nat.zero_add]
  exact hj
 have hr := run_append_grow (P := P) w t ty e i0 z hu q1 q3 ad n1 c1 xs (by rw [q2]; exact hxl) (hrd w hs.h) ⟨β i2, 0, none⟩ m c2 news (by rw [q2]; exact hnews) hcells hc (by omega) (by rw [q5]; exact growslice_fits (by omega) c3)
 have hge := grownCap_ge w (n1 + m) c1 e
 have hcm : grownCap w (n1 + m) c1 e ≤ maxLen := grownCap_le_maxLen w (n1 + m) c1 e (by simp only [maxLen]; omega)
 have hlen : (xs ++ news).length = (n1 + m) * size := by rw [List.length_append, hxl, hnews, Nat.add_mul]
 generalize grownCap w (n1 + m) c1 e = gc at hr hge hcm
 generalize hw2 : w.drew.alloc (.cells (xs.toArray ++ news.toArray ++ Builtin.zeroCells z.cells (gc - (n1 + m))) e) = w2 at hr
 have hnew : w2.heap[w.heap.size]? = some (.cells (xs.toArray ++ news.toArray ++ Builtin.zeroCells z.cells (gc - (n1 + m))) e (0, 0)) := by rw [← hw2]; exact heap_alloc_new w.drew _
 have hold : ∀ k, k < w.heap.size → w2.heap[k]? = w.heap[k]? := fun k hk => by rw [← hw2]; exact heap_alloc_old w.drew _ hk
 refine ⟨fun i => if i = σ.nb then w.heap.size else if i = σ.nb + 1 then gc else β i, w2, ⟨fun i hi => ?_, ⟨by rw [← hw2]; rfl, by rw [← hw2]; rfl, by rw [← hw2]; rfl, by rw [← hw2]; simp, fun b hb _ => hold b hb⟩, fun i bk hi => ?_, fun i hi hL => ?_, fun i hi j hj hL hL' hne => ?_⟩, .inl ?_⟩
 · simp only [List.mem_cons, List.not_mem_nil, or_false, not_or] at hi
   simp [hi.1, hi.2]
 · simp only [List.mem_singleton, Prod.mk.injEq] at hi
   obtain ⟨rfl, rfl⟩ := hi
   have hn1 : ¬ (σ.nb + 1 = σ.nb) := by omega
   simp only [Blk.ok, if_true, if_neg hn1]
   refine ⟨hlen, .inr ⟨w.heap.size, gc, _, rfl, Nat.zero_le _, hnew, hge, hcm, ?_, ?_⟩⟩
   · simp only [Array.size_append, List.size_toArray, size_zeroCells, hzs, hxl, hnews, ← Nat.add_mul]
     congr 1
     omega
   · simp only [Array.toList_append, List.append_assoc]
     rw [← List.append_assoc, ← hlen]
     exact List.take_left
 · obtain ⟨bk, hbk, _⟩ := hL
   simp only [List.mem_singleton, Prod.mk.injEq] at hbk
   obtain ⟨rfl, _⟩ := hbk
   exact .inl (by simp)
 · obtain ⟨bk, hbk, _⟩ := hL
   obtain ⟨bk', hbk', _⟩ := hL'
   simp only [List.mem_singleton, Prod.mk.injEq] at hbk hbk'
   exact absurd (hbk.1.trans hbk'.1.symm) hne
 · have : ¬ σ.nb + 1 = σ.nb := by omega
   have hx0 : (#[x, y] : Array Operand).map a.eval = #[a.eval x, a.eval y] := by simp
   simp only [execOp, resolve, invoke, builtin, hx0, e1, e2, SV.c] at hr ⊢
   simp only [Sem.run_bind, Sem.run_pure, Result.andThen_ok, hr, SV.c, if_true, this, if_false]
end Go.Proofs.Ythfabodamhdhaaa.Tx
namespace Go.Proofs.Ythfabodamhdhaaa.Tx
open Go Go.RowKit
set_option linter.unusedSimpArgs false
set_option linter.unusedVariables false
theorem mkMv {P : Program} {dst : Option Tmp} {ty : TypeId} {pos : String} {after : Array Edge} {gd : Option (Nat × Bool)} {gs : List Nat} {σ : Sg} {K : Ef → Prop} {f : Fn} {x : Operand} {s : SV} (V : Value) (hx : gv σ x = some s) (hV : ∀ β, s.c β = V)
 (hB : efB σ ⟨.v (.func f #[V] #[]), [], [], gs ++ os x, []⟩ = true) (hK : K ⟨.v (.func f #[V] #[]), [], [], gs ++ os x, []⟩) : OpEv P ⟨dst, .makeFunc f #[x] #[], ty, pos, after, gd⟩ gs σ K := by
 refine .mk _ hB (fun k hk => by simp [hk]) rfl (runOK_pure fun β a w hs => ?_) hK
 have e1 := gv_eval hs hx (fun k hk => by simp [hk])
 rw [hV] at e1
 simp only [execOp, Instr.makeFunc, SV.c, Sem.run_bind, Sem.run_pure, Result.andThen_ok, List.map_toArray, List.map_nil, List.map_cons, e1]
end Go.Proofs.Ythfabodamhdhaaa.Tx
namespace Go.Proofs.Ythfabodamhdhaaa
open Go Tx Go.RowKit
set_option linter.unusedSimpArgs false
set_option linter.unusedVariables false
theorem sbelow_tr {w0 w1 w2 : World} (h : Below w0.heap.size w0 w1) (k : Below w1.heap.size w1 w2) : Below w0.heap.size w0 w2 := h.trans (k.mono h.size)
theorem one_st {w : World} {m b : Nat} {ty : TypeId} {a : Int} (hb : m ≤ b) (h : w.heap[b]? = some (.cells #[iv a] ty (0, 0))) : St m (Rd 1 iF (.slice (some ⟨b, 0, none⟩) 1 1) [a]) w := fun w2 k => Rd.of_cells (f := iF) (fun _ => rfl) rfl (by rw [k.same b hb (Array.getElem?_eq_some_iff.1 h).1]; exact h)
set_option maxHeartbeats 1000000 in
set_option maxRecDepth 100000 in
theorem one121_own (no : Option Addr) (nc : Nat) (wk : Int) (co : Option Addr) (cn cc : Nat) (s : Value) (g : Int) (w : World)
 (hg : ∀ w', Below w.heap.size w w' → Calls Try.prog 121 #[.agg #[.slice no 1 nc, iv wk, .slice co cn cc, s], iv 0] w' fun e w2 => e = .returned (iv g) ∧ Below w'.heap.size w' w2) :
 Calls Try.prog 120 #[.agg #[.slice no 1 nc, iv wk, .slice co cn cc, s], .func (.func 121) #[.agg #[.slice no 1 nc, iv wk, .slice co cn cc, s]] #[]] w fun e w' => ∃ b, e = .returned (.slice (some ⟨b, 0, none⟩) 1 1) ∧ Below w.heap.size w w' ∧ w.heap.size ≤ b ∧ w'.heap[b]? = some (.cells #[iv g] 3 (0, 0)) := by
 refine calls_fam2 env mixed Try.func120 has120 Try.ntmps120 [.agg #[.slice no 1 nc, iv wk, .slice co cn cc, s], .func (.func 121) #[.agg #[.slice no 1 nc, iv wk, .slice co cn cc, s]] #[]] (by simp) ?_
 repeat'
  conv => whnf
  first
   | refine zA ?_ | refine zB ?_ | refine zC ?_ | refine zD ?_ | refine zE ?_ | refine zF ?_ | refine zG ?_ | refine zH ?_ | refine zJ ?_ | refine zI ?_ | refine splT ?_ | refine splF ?_ | refine splNot ?_
   | ((first | refine splIn ?_ ?_ | refine splD ?_ ?_ | refine splE ?_ ?_ | refine splNE ?_ ?_) <;> intro hc <;> first | (exfalso; omega) | (exfalso; dsimp only at hc; omega) | skip)
   | refine mkC env 1 1 [.v (iv 0)] rfl rfl rfl (by decide) rfl (by omega) (by decide) (by decide) rfl rfl ?_
 refine loopN 2 (fun (k : Nat) => [(1, .v (.func (.func 121) #[.agg #[.slice no 1 nc, iv wk, .slice co cn cc, s]] #[])), (5, .sl 1 0 1 1), (13, .v (iv 1)), (14, .v (iv k))])
  (fun k => [(1, .cells [.v (iv (if k = 0 then 0 else g))] 3)])
  (fun k => k ≤ 1) (fun k => 1 - k) 0
  (Nat.zero_le _) ⟨rfl, rfl, rfl, rfl, trivial⟩ ⟨rfl, trivial⟩ (fun _ _ => ⟨rfl, rfl⟩) ?_
 intro k hk
 rcases Nat.lt_or_ge k 1 with hkl | hkl
 · obtain rfl : k = 0 := by omega
   repeat'
    conv => whnf
    first
     | refine zA ?_ | refine zB ?_ | refine zC ?_ | refine zD ?_ | refine zE ?_ | refine zF ?_ | refine zG ?_ | refine zH ?_ | refine zJ ?_ | refine zI ?_ | refine splT ?_ | refine splF ?_ | refine splNot ?_
     | ((first | refine splIn ?_ ?_ | refine splD ?_ ?_ | refine splE ?_ ?_ | refine splNE ?_ ?_) <;> intro hc <;> first | (exfalso; omega) | (exfalso; dsimp only at hc; omega) | skip)
     | ((with_reducible show CallEv _ _ 121 _ _ _ _ _); refine callE (k := 121) (fun β w' hbw => hg w' hbw) ?_)
   all_goals first | (exfalso; omega) | exact ⟨1, by omega, by omega, Ent.weak rfl ⟨rfl, rfl, rfl, rfl, trivial⟩ ⟨rfl, trivial⟩ fun _ h => h⟩
 · obtain rfl : k = 1 := by omega
   repeat'
    conv => whnf
    first
     | refine zA ?_ | refine zB ?_ | refine zC ?_ | refine zD ?_ | refine zE ?_ | refine zF ?_ | refine zG ?_ | refine zH ?_ | refine zJ ?_ | refine zI ?_ | refine splT ?_ | refine splF ?_ | refine splNot ?_
     | ((first | refine splIn ?_ ?_ | refine splD ?_ ?_ | refine splE ?_ ?_ | refine splNE ?_ ?_) <;> intro hc <;> first | (exfalso; omega) | (exfalso; dsimp only at hc; omega) | skip)
   all_goals first | (exfalso; omega) | exact ⟨fun w' h => h, fun β w' hB hB2 hblk => ⟨β 1, rfl, hB2, (hblk 1 _ rfl rfl).1, (hblk 1 _ rfl rfl).2⟩⟩
set_option maxHeartbeats 1000000 in
set_option maxRecDepth 100000 in
theorem one122_own (no : Option Addr) (nc : Nat) (wk : Int) (co : Option Addr) (cn cc : Nat) (s : Value) (g : Int) (w : World)
 (hg : ∀ w', Below w.heap.size w w' → Calls Try.prog 122 #[.agg #[.slice no 1 nc, iv wk, .slice co cn cc, s], iv 0] w' fun e w2 => e = .returned (iv g) ∧ Below w'.heap.size w' w2) :
 Calls Try.prog 120 #[.agg #[.slice no 1 nc, iv wk, .slice co cn cc, s], .func (.func 122) #[.agg #[.slice no 1 nc, iv wk, .slice co cn cc, s]] #[]] w fun e w' => ∃ b, e = .returned (.slice (some ⟨b, 0, none⟩) 1 1) ∧ Below w.heap.size w w' ∧ w.heap.size ≤ b ∧ w'.heap[b]? = some (.cells #[iv g] 3 (0, 0)) := by
 refine calls_fam2 env mixed Try.func120 has120 Try.ntmps120 [.agg #[.slice no 1 nc, iv wk, .slice co cn cc, s], .func (.func 122) #[.agg #[.slice no 1 nc, iv wk, .slice co cn cc, s]] #[]] (by simp) ?_
 repeat'
  conv => whnf
  first
   | refine zA ?_ | refine zB ?_ | refine zC ?_ | refine zD ?_ | refine zE ?_ | refine zF ?_ | refine zG ?_ | refine zH ?_ | refine zJ ?_ | refine zI ?_ | refine splT ?_ | refine splF ?_ | refine splNot ?_
   | ((first | refine splIn ?_ ?_ | refine splD ?_ ?_ | refine splE ?_ ?_ | refine splNE ?_ ?_) <;> intro hc <;> first | (exfalso; omega) | (exfalso; dsimp only at hc; omega) | skip)
   | refine mkC env 1 1 [.v (iv 0)] rfl rfl rfl (by decide) rfl (by omega) (by decide) (by decide) rfl rfl ?_
 refine loopN 2 (fun (k : Nat) => [(1, .v (.func (.func 122) #[.agg #[.slice no 1 nc, iv wk, .slice co cn cc, s]] #[])), (5, .sl 1 0 1 1), (13, .v (iv 1)), (14, .v (iv k))])
  (fun k => [(1, .cells [.v (iv (if k = 0 then 0 else g))] 3)])
  (fun k => k ≤ 1) (fun k => 1 - k) 0
  (Nat.zero_le _) ⟨rfl, rfl, rfl, rfl, trivial⟩ ⟨rfl, trivial⟩ (fun _ _ => ⟨rfl, rfl⟩) ?_
 intro k hk
 rcases Nat.lt_or_ge k 1 with hkl | hkl
 · obtain rfl : k = 0 := by omega
   repeat'
    conv => whnf
    first
     | refine zA ?_ | refine zB ?_ | refine zC ?_ | refine zD ?_ | refine zE ?_ | refine zF ?_ | refine zG ?_ | refine zH ?_ | refine zJ ?_ | refine zI ?_ | refine splT ?_ | refine splF ?_ | refine splNot ?_
     | ((first | refine splIn ?_ ?_ | refine splD ?_ ?_ | refine splE ?_ ?_ | refine splNE ?_ ?_) <;> intro hc <;> first | (exfalso; omega) | (exfalso; dsimp only at hc; omega) | skip)
     | ((with_reducible show CallEv _ _ 122 _ _ _ _ _); refine callE (k := 122) (fun β w' hbw => hg w' hbw) ?_)
   all_goals first | (exfalso; omega) | exact ⟨1, by omega, by omega, Ent.weak rfl ⟨rfl, rfl, rfl, rfl, trivial⟩ ⟨rfl, trivial⟩ fun _ h => h⟩
 · obtain rfl : k = 1 := by omega
   repeat'
    conv => whnf
    first
     | refine zA ?_ | refine zB ?_ | refine zC ?_ | refine zD ?_ | refine zE ?_ | refine zF ?_ | refine zG ?_ | refine zH ?_ | refine zJ ?_ | refine zI ?_ | refine splT ?_ | refine splF ?_ | refine splNot ?_
     | ((first | refine splIn ?_ ?_ | refine splD ?_ ?_ | refine splE ?_ ?_ | refine splNE ?_ ?_) <;> intro hc <;> first | (exfalso; omega) | (exfalso; dsimp only at hc; omega) | skip)
   all_goals first | (exfalso; omega) | exact ⟨fun w' h => h, fun β w' hB hB2 hblk => ⟨β 1, rfl, hB2, (hblk 1 _ rfl rfl).1, (hblk 1 _ rfl rfl).2⟩⟩
end Go.Proofs.Ythfabodamhdhaaa
namespace Go.Proofs.Ythfabodamhdhaaa
open Go Tx Go.RowKit
set_option linter.unusedSimpArgs false
set_option linter.unusedVariables false
theorem played_ok (x : Tr) (n : Int) (w : World) (hl : x.T.length ≤ 1000000) : Calls Try.prog 69 #[x.v, iv n] w fun e w' => e = .returned (.bool (inB n 1 ((x.T.length : Int) - 1))) ∧ Below w.heap.size w w' := by
 obtain ⟨days, shift, size, to, tc, T, lo, lc, L⟩ := x
 dsimp only at hl ⊢
 refine calls_val env mixed Try.func69 has69 Try.ntmps69 [.agg #[iv days, iv shift, iv size, .slice to T.length tc, .slice lo L.length lc], iv n] (by simp) ?_
 have hv := fun w' => within_ok n 1 (T.length - 1) w'
 repeat'
  conv => whnf
  first
   | refine zA ?_ | refine zB ?_ | refine zC ?_ | refine zD ?_ | refine zE ?_ | refine zF ?_ | refine zG ?_ | refine zH ?_ | refine zJ ?_ | refine zI ?_ | refine splT ?_ | refine splF ?_ | refine splNot ?_
   | ((first | refine splIn ?_ ?_ | refine splD ?_ ?_ | refine splE ?_ ?_ | refine splNE ?_ ?_) <;> intro hc <;> first | (exfalso; omega) | (exfalso; dsimp only at hc; omega) | skip)
   | ((with_reducible show CallEv _ _ 70 _ _ _ _ _); refine callE (k := 70) (fun β w' hbw => hv _) ?_)
 all_goals first | (exfalso; omega) | exact ⟨fun β => rfl, fun w' h => h⟩
end Go.Proofs.Ythfabodamhdhaaa
namespace Go.Proofs.Ythfabodamhdhaaa
open Go Tx Go.RowKit
set_option linter.unusedSimpArgs false
set_option linter.unusedVariables false
def fitB (r1 r2 f l : Int) : Bool := decide (f ≤ l) && (decide (l - f < 10) && inB (l - f + 1) r1 r2)
theorem cv200 (t : Int) : RunIs Try.prog (convert 3 200 (.int .i64 t)) (.int .u64 (IntKind.u64.wrap t)) := fun w => by
 have h200 : Try.prog.underlying 200 = some (.int .u64) := by kernel_rfl
 simp [convert, Conv.intToInt, Go.run_underlying h200 w, Go.run_underlying under3 w]
theorem w64_sub (l f : Int) (h : 0 ≤ l - f ∧ l - f ≤ 18446744073709551615) : l - f = IntKind.u64.wrap (IntKind.u64.wrap l - IntKind.u64.wrap f) := by
 have e : ∀ x : Int, IntKind.u64.wrap x = x % 18446744073709551616 := fun x => by
  simp only [IntKind.wrap, IntKind.bits, IntKind.signed]; simp
 rw [e, e, e]; omega
set_option maxRecDepth 100000 in
theorem fits_ok (k f l r1 r2 : Int) (w : World) (hf : -9223372036854775808 ≤ f ∧ f ≤ 9223372036854775807) (hl : -9223372036854775808 ≤ l ∧ l ≤ 9223372036854775807) : Calls Try.prog 147 #[.agg #[iv k, iv f, iv l], .agg #[iv r1, iv r2]] w fun e w' => e = .returned (.bool (fitB r1 r2 f l)) ∧ Below w.heap.size w w' := by
 refine calls_val env mixed Try.func147 has147 Try.ntmps147 [.agg #[iv k, iv f, iv l], .agg #[iv r1, iv r2]] (by simp) ?_
 have hv := fun w' => has_ok r1 r2 (l - f + 1) w'
 have hsub := w64_sub l f
 have cl := cv200 l
 have cf := cv200 f
 generalize hul : IntKind.u64.wrap l = ul at *
 generalize huf : IntKind.u64.wrap f = uf at *
 repeat'
  conv => whnf
  first
   | refine zA ?_ | refine zB ?_ | refine zC ?_ | refine zD ?_ | refine zE ?_ | refine zF ?_ | refine zG ?_ | refine zH ?_ | refine zJ ?_ | refine zI ?_ | refine splT ?_ | refine splF ?_ | refine splNot ?_
   | ((first | refine splIn ?_ ?_ | refine splD ?_ ?_ | refine splE ?_ ?_ | refine splNE ?_ ?_) <;> intro hc <;> first | (exfalso; omega) | (exfalso; dsimp only at hc; omega) | skip)
   | refine Exists.intro (α := Value) (.int .u64 ul) ⟨cl, ?_⟩
   | refine Exists.intro (α := Value) (.int .u64 uf) ⟨cf, ?_⟩
   | refine Exists.intro (α := Int) (l - f) ⟨hsub (by omega), ?_⟩
   | ((with_reducible show CallEv _ _ 166 _ _ _ _ _); refine callE (k := 166) (fun β w' hbw => hv _) ?_)
 all_goals first | (exfalso; omega) | exact ⟨fun β => congrArg Value.bool (by simp [fitB, *]; done), fun w' h => h⟩
def licB (O : List (Int × Int)) (f l : Int) : Bool := O.any fun r => inB f r.1 r.2 && inB l r.1 r.2
set_option maxHeartbeats 2000000 in
set_option maxRecDepth 100000 in
theorem licensed_ok (t : Tn) (k f l : Int) (w : World) (h : TnIn t w) : Calls Try.prog 149 #[.agg t.cs.toArray, .agg #[iv k, iv f, iv l]] w fun e w' => e = .returned (.bool (licB t.d.O f l)) ∧ Below w.heap.size w w' := by
 obtain ⟨oo, oc, ro, rc, O, s1, s2, pay, lot, rent, R, cold, cut⟩ := t
 obtain ⟨hO, hR, hol, hrl⟩ := h
 dsimp only at hO hR hol hrl ⊢
 refine calls_val env mixed Try.func149 has149 Try.ntmps149 [.agg #[.slice oo O.length oc, iv s1, iv s2, iv pay, iv lot, iv rent, .slice ro R.length rc, iv cold, iv cut], .agg #[iv k, iv f, iv l]] (by simp) ?_
 repeat'
  conv => whnf
  first
   | refine zA ?_ | refine zB ?_ | refine zC ?_ | refine zD ?_ | refine zE ?_ | refine zF ?_ | refine zG ?_ | refine zH ?_ | refine zJ ?_ | refine zI ?_ | refine splT ?_ | refine splF ?_ | refine splNot ?_
   | ((first | refine splIn ?_ ?_ | refine splD ?_ ?_ | refine splE ?_ ?_ | refine splNE ?_ ?_) <;> intro hc <;> first | (exfalso; omega) | (exfalso; dsimp only at hc; omega) | skip)
 refine loopE (fun i : Nat => [(2, .ptr 0 0), (3, .ptr 1 0), (5, .v (.bool false)), (11, .v (.slice oo O.length oc)), (12, .v (iv O.length)), (13, .v (iv i))]) (fun _ => [(1, .cells [.v (iv k), .v (iv f), .v (iv l)] 96), (0, .cells [.v (.slice oo O.length oc), .v (iv s1), .v (iv s2), .v (iv pay), .v (iv lot), .v (iv rent), .v (.slice ro R.length rc), .v (iv cold), .v (iv cut)] 57)]) (fun i => i ≤ O.length ∧ licB (O.take i) f l = false) (fun i => O.length - i) 0 ⟨Nat.zero_le _, rfl⟩ ⟨rfl, rfl, rfl, rfl, rfl, rfl, trivial⟩ ⟨rfl, rfl, trivial⟩ (fun _ => ⟨rfl, rfl⟩) ?_
 intro i ⟨hi, hall⟩
 rcases Nat.lt_or_ge i O.length with hil | hil
 · obtain ⟨⟨r1, r2⟩, hx⟩ : ∃ b, O[i]? = some b := ⟨_, List.getElem?_eq_getElem hil⟩
   obtain ⟨_, ad, rfl, _⟩ := hO.ptr (by omega)
   have e0 := fun (w' : World) hw' => rd_ati (hO.below (w' := w') hw') hx
   have ht : licB (O.take (i + 1)) f l = (inB f r1 r2 && inB l r1 r2) := by
    unfold licB
    rw [any_take hx, show (O.take i).any (fun r => inB f r.1 r.2 && inB l r.1 r.2) = false from hall, Bool.false_or]
   have hyes : (inB f r1 r2 && inB l r1 r2) = true → licB O f l = true := fun h => any_yes (p := fun r : Int × Int => inB f r.1 r.2 && inB l r.1 r.2) hx h
   have hf := fun w' => has_ok r1 r2 f w'
   have hl := fun w' => has_ok r1 r2 l w'
   obtain ⟨b1, h1⟩ : ∃ b, inB f r1 r2 = b := ⟨_, rfl⟩
   obtain ⟨b2, h2⟩ : ∃ b, inB l r1 r2 = b := ⟨_, rfl⟩
   rw [h1, h2] at hyes ht
   rw [h1] at hf
   rw [h2] at hl
   repeat'
    conv => whnf
    first
     | refine zA ?_ | refine zB ?_ | refine zC ?_ | refine zD ?_ | refine zE ?_ | refine zF ?_ | refine zG ?_ | refine zH ?_ | refine zJ ?_ | refine zI ?_ | refine splT ?_ | refine splF ?_ | refine splNot ?_
     | ((first | refine splIn ?_ ?_ | refine splD ?_ ?_ | refine splE ?_ ?_ | refine splNE ?_ ?_) <;> intro hc <;> first | (exfalso; omega) | (exfalso; dsimp only at hc; omega) | skip)
     | refine Exists.intro (α := List Value) [iv r1, iv r2] ⟨⟨rfl, fun w' hw' => e0 w' hw'⟩, ?_⟩
   all_goals first | (exfalso; omega) | skip
   refine loopE (fun j : Nat => [(2, .ptr 0 0), (3, .ptr 1 0), (5, .v (.bool false)), (11, .v (.slice (some ad) O.length oc)), (12, .v (iv O.length)), (13, .v (iv i)), (7, .ptr 2 0), (21, .agg [.v (iv f), .v (iv l)]), (22, .v (iv j))]) (fun _ => [(2, .cells [.v (iv r1), .v (iv r2)] 55), (1, .cells [.v (iv k), .v (iv f), .v (iv l)] 96), (0, .cells [.v (.slice (some ad) O.length oc), .v (iv s1), .v (iv s2), .v (iv pay), .v (iv lot), .v (iv rent), .v (.slice ro R.length rc), .v (iv cold), .v (iv cut)] 57)]) (fun j => j ≤ 2 ∧ (1 ≤ j → b1 = true) ∧ (2 ≤ j → b2 = true)) (fun j => 2 - j) 0 ⟨by decide, by omega, by omega⟩ ⟨rfl, rfl, rfl, rfl, rfl, rfl, rfl, rfl, rfl, trivial⟩ ⟨rfl, rfl, rfl, trivial⟩ (fun _ => ⟨rfl, rfl⟩) ?_
   intro j ⟨hj, hj1, hj2⟩
   obtain rfl | rfl | rfl : j = 0 ∨ j = 1 ∨ j = 2 := by omega
   · cases b1 with
     | true =>
      repeat'
       conv => whnf
       first
        | refine zA ?_ | refine zB ?_ | refine zC ?_ | refine zD ?_ | refine zE ?_ | refine zF ?_ | refine zG ?_ | refine zH ?_ | refine zJ ?_ | refine zI ?_ | refine splT ?_ | refine splF ?_ | refine splNot ?_
        | ((first | refine splIn ?_ ?_ | refine splD ?_ ?_ | refine splE ?_ ?_ | refine splNE ?_ ?_) <;> intro hc <;> first | (exfalso; omega) | (exfalso; dsimp only at hc; omega) | skip)
        | refine idxS env rfl rfl rfl rfl (And.intro (by omega) (by omega)) rfl rfl (.inr ⟨rfl, rfl⟩) rfl ?_
        | ((with_reducible show CallEv _ _ 166 _ _ _ _ _); refine callE (k := 166) (fun β w' hbw => hf _) ?_)
      all_goals first | (exfalso; omega) | exact ⟨1, ⟨by omega, fun _ => rfl, by omega⟩, by omega, Ent.weak rfl ⟨rfl, rfl, rfl, rfl, rfl, rfl, rfl, rfl, rfl, trivial⟩ ⟨rfl, rfl, rfl, trivial⟩ fun _ h => h⟩
     | false =>
      repeat'
       conv => whnf
       first
        | refine zA ?_ | refine zB ?_ | refine zC ?_ | refine zD ?_ | refine zE ?_ | refine zF ?_ | refine zG ?_ | refine zH ?_ | refine zJ ?_ | refine zI ?_ | refine splT ?_ | refine splF ?_ | refine splNot ?_
        | ((first | refine splIn ?_ ?_ | refine splD ?_ ?_ | refine splE ?_ ?_ | refine splNE ?_ ?_) <;> intro hc <;> first | (exfalso; omega) | (exfalso; dsimp only at hc; omega) | skip)
        | refine idxS env rfl rfl rfl rfl (And.intro (by omega) (by omega)) rfl rfl (.inr ⟨rfl, rfl⟩) rfl ?_
        | ((with_reducible show CallEv _ _ 166 _ _ _ _ _); refine callE (k := 166) (fun β w' hbw => hf _) ?_)
      all_goals first | (exfalso; omega) | exact ⟨i + 1, ⟨by omega, ht⟩, by omega, Ent.weak rfl ⟨rfl, rfl, rfl, rfl, rfl, rfl, trivial⟩ ⟨rfl, rfl, trivial⟩ fun _ h => h⟩
   · obtain rfl := hj1 (by omega)
     cases b2 with
     | true =>
      repeat'
       conv => whnf
       first
        | refine zA ?_ | refine zB ?_ | refine zC ?_ | refine zD ?_ | refine zE ?_ | refine zF ?_ | refine zG ?_ | refine zH ?_ | refine zJ ?_ | refine zI ?_ | refine splT ?_ | refine splF ?_ | refine splNot ?_
        | ((first | refine splIn ?_ ?_ | refine splD ?_ ?_ | refine splE ?_ ?_ | refine splNE ?_ ?_) <;> intro hc <;> first | (exfalso; omega) | (exfalso; dsimp only at hc; omega) | skip)
        | refine idxS env rfl rfl rfl rfl (And.intro (by omega) (by omega)) rfl rfl (.inr ⟨rfl, rfl⟩) rfl ?_
        | ((with_reducible show CallEv _ _ 166 _ _ _ _ _); refine callE (k := 166) (fun β w' hbw => hl _) ?_)
      all_goals first | (exfalso; omega) | exact ⟨2, ⟨by omega, fun _ => rfl, fun _ => rfl⟩, by omega, Ent.weak rfl ⟨rfl, rfl, rfl, rfl, rfl, rfl, rfl, rfl, rfl, trivial⟩ ⟨rfl, rfl, rfl, trivial⟩ fun _ h => h⟩
     | false =>
      repeat'
       conv => whnf
       first
        | refine zA ?_ | refine zB ?_ | refine zC ?_ | refine zD ?_ | refine zE ?_ | refine zF ?_ | refine zG ?_ | refine zH ?_ | refine zJ ?_ | refine zI ?_ | refine splT ?_ | refine splF ?_ | refine splNot ?_
        | ((first | refine splIn ?_ ?_ | refine splD ?_ ?_ | refine splE ?_ ?_ | refine splNE ?_ ?_) <;> intro hc <;> first | (exfalso; omega) | (exfalso; dsimp only at hc; omega) | skip)
        | refine idxS env rfl rfl rfl rfl (And.intro (by omega) (by omega)) rfl rfl (.inr ⟨rfl, rfl⟩) rfl ?_
        | ((with_reducible show CallEv _ _ 166 _ _ _ _ _); refine callE (k := 166) (fun β w' hbw => hl _) ?_)
      all_goals first | (exfalso; omega) | exact ⟨i + 1, ⟨by omega, ht⟩, by omega, Ent.weak rfl ⟨rfl, rfl, rfl, rfl, rfl, rfl, trivial⟩ ⟨rfl, rfl, trivial⟩ fun _ h => h⟩
   · obtain rfl := hj1 (by omega)
     obtain rfl := hj2 (by omega)
     rw [hyes rfl]
     repeat'
      conv => whnf
      first
       | refine zA ?_ | refine zB ?_ | refine zC ?_ | refine zD ?_ | refine zE ?_ | refine zF ?_ | refine zG ?_ | refine zH ?_ | refine zJ ?_ | refine zI ?_ | refine splT ?_ | refine splF ?_ | refine splNot ?_
       | ((first | refine splIn ?_ ?_ | refine splD ?_ ?_ | refine splE ?_ ?_ | refine splNE ?_ ?_) <;> intro hc <;> first | (exfalso; omega) | (exfalso; dsimp only at hc; omega) | skip)
     all_goals first | (exfalso; omega) | exact ⟨fun β => rfl, fun w' h => h⟩
 · rw [List.take_of_length_le hil] at hall
   rw [hall]
   repeat'
    conv => whnf
    first
     | refine zA ?_ | refine zB ?_ | refine zC ?_ | refine zD ?_ | refine zE ?_ | refine zF ?_ | refine zG ?_ | refine zH ?_ | refine zJ ?_ | refine zI ?_ | refine splT ?_ | refine splF ?_ | refine splNot ?_
     | ((first | refine splIn ?_ ?_ | refine splD ?_ ?_ | refine splE ?_ ?_ | refine splNE ?_ ?_) <;> intro hc <;> first | (exfalso; omega) | (exfalso; dsimp only at hc; omega) | skip)
   all_goals first | (exfalso; omega) | exact ⟨fun β => rfl, fun w' h => h⟩
end Go.Proofs.Ythfabodamhdhaaa
namespace Go.Proofs.Ythfabodamhdhaaa
open Go Tx Go.RowKit
set_option linter.unusedSimpArgs false
set_option linter.unusedVariables false
abbrev spF (s : Int × Int × Int) : List Value := [iv s.1, iv s.2.1, iv s.2.2]
structure SpIn (o : Option Addr) (c : Nat) (S : List (Int × Int × Int)) (w : World) : Prop where
 r : Rd 3 spF (.slice o S.length c) S w
 l : S.length ≤ 1000000
 c : S.length ≤ c
 n : ∀ s ∈ S, (-9223372036854775808 ≤ s.2.1 ∧ s.2.1 ≤ 9223372036854775807) ∧ -9223372036854775808 ≤ s.2.2 ∧ s.2.2 ≤ 9223372036854775807
theorem SpIn.below {o : Option Addr} {c : Nat} {S : List (Int × Int × Int)} {w w' : World} (h : SpIn o c S w) (hb : Below w.heap.size w w') : SpIn o c S w' := ⟨h.r.below hb, h.l, h.c, h.n⟩
def twO (x : To) (k : Int) : Tw := (x.T[k.toNat]?).getD ⟨[], 0, 0, 0, 0, 0, [], 0, 0⟩
def ts1 (x : To) (k : Int) : Bool := !(inB k 1 ((x.T.length : Int) - 1))
def ts2 (x : To) (k : Int) : Bool := decide ((twO x k).lot < x.size)
def ts3 (x : To) (k f l : Int) : Bool := !(fitB (twO x k).s1 (twO x k).s2 f l)
def ts4 (x : To) (k f l : Int) : Bool := !(licB (twO x k).O f l)
def ts5 (S : List (Int × Int × Int)) (i : Nat) (k : Int) : Bool := (S.take i).any fun s => s.1 == k
def ts6 (x : To) (S : List (Int × Int × Int)) (i : Nat) (k f : Int) : Bool := match i with
 | 0 => decide (-1 > f - 1 - lsO x 0 k.toNat)
 | j + 1 => match S[j]? with
  | some p => inB p.1 1 ((x.T.length : Int) - 1) && decide (p.2.2 > f - 1 - lsO x p.1.toNat k.toNat)
  | none => false
def ts7 (x : To) (S : List (Int × Int × Int)) (i : Nat) (k l : Int) : Bool := decide (i + 1 = S.length) && decide (l + lsO x k.toNat 0 > x.days - 1)
theorem rd_flds {α : Type} {sz : Nat} {f : α → List Value} {ad : Addr} {n c : Nat} {L : List α} {w : World} (h : Rd sz f (.slice (some ad) n c) L w) {k : Nat} {b : α} (hk : L[k]? = some b) (z : Int) (hz : z = k) (o : Nat) (vs : List Value) (hv : ∀ j v, vs[j]? = some v → (f b)[o + j]? = some v) :
 ∀ j u, vs[j]? = some u → w.cell? (((ad.add (z.toNat * sz)).add o).add j) = some u := fun j u hu => by
 subst hz
 rw [Addr.add_add]
 exact rd_ati h hk _ _ (hv j u hu)
theorem twO_eq {x : Tr} {k : Int} {t : Tn} (h : x.T[k.toNat]? = some t) : twO x.d k = t.d := by
 simp only [twO, Tr.d, List.getElem?_map, h, Option.map_some, Option.getD_some]
section
variable (x : Tr) (o : Option Addr) (c : Nat) (S : List (Int × Int × Int)) (i : Nat) (k f l : Int) (w : World) (h : TrIn x w) (hn : ToN x.d) (hS : SpIn o c S w) (hi : S[i]? = some (k, f, l))
include h hn hS hi
set_option maxRecDepth 100000 in
theorem test1_ok : Calls Try.prog 144 #[x.v, .slice o S.length c, iv i] w fun e w' => e = .returned (.bool (ts1 x.d k)) ∧ Below w.heap.size w w' := by
 have hp := fun w' => played_ok x k w' h.tl
 have hlen : x.d.T.length = x.T.length := List.length_map ..
 unfold ts1
 rw [hlen]
 obtain ⟨days, shift, size, to, tc, T, lo, lc, L⟩ := x
 have hil : i < S.length := (List.getElem?_eq_some_iff.1 hi).1
 have hsl := hS.l
 obtain ⟨_, ad, rfl, _⟩ := hS.r.ptr (by omega)
 have e0 := fun (w' : World) hw' => rd_fld (hS.r.below (w' := w') hw') hi 0 (iv k) rfl
 obtain ⟨b, hb⟩ : ∃ b, inB k 1 ((T.length : Int) - 1) = b := ⟨_, rfl⟩
 dsimp only at hp ⊢
 rw [hb] at hp ⊢
 refine calls_val env mixed Try.func144 has144 Try.ntmps144 [.agg #[iv days, iv shift, iv size, .slice to T.length tc, .slice lo L.length lc], .slice (some ad) S.length c, iv i] (by simp) ?_
 cases b
 all_goals skip
 repeat'
  conv => whnf
  first
   | refine zA ?_ | refine zB ?_ | refine zC ?_ | refine zD ?_ | refine zE ?_ | refine zF ?_ | refine zG ?_ | refine zH ?_ | refine zJ ?_ | refine zI ?_ | refine splT ?_ | refine splF ?_ | refine splNot ?_
   | ((first | refine splIn ?_ ?_ | refine splD ?_ ?_ | refine splE ?_ ?_ | refine splNE ?_ ?_) <;> intro hc <;> first | (exfalso; omega) | (exfalso; dsimp only at hc; omega) | skip)
   | refine Exists.intro (α := List Value) [iv k] ⟨⟨rfl, fun w' hw' => e0 w' hw'⟩, ?_⟩
   | ((with_reducible show CallEv _ _ 69 _ _ _ _ _); refine callE (k := 69) (fun β w' hbw => hp _) ?_)
 all_goals first | (exfalso; omega) | exact ⟨fun β => rfl, fun w' h => h⟩
set_option maxHeartbeats 1000000 in
set_option maxRecDepth 100000 in
theorem test2_ok (hk : 1 ≤ k ∧ k < x.T.length) : Calls Try.prog 145 #[x.v, .slice o S.length c, iv i] w fun e w' => e = .returned (.bool (ts2 x.d k)) ∧ Below w.heap.size w w' := by
 obtain ⟨t, ht⟩ : ∃ t, x.T[k.toNat]? = some t := ⟨_, List.getElem?_eq_getElem (by omega)⟩
 have htw := twO_eq (x := x) ht
 have hti := h.ti t (List.mem_of_getElem? ht)
 have hkz : k = k.toNat := by omega
 unfold ts2
 rw [htw]
 obtain ⟨days, shift, size, to, tc, T, lo, lc, L⟩ := x
 have hT := h.t
 obtain ⟨oo, oc, ro, rc, O, s1, s2, pay, lot, rent, R, cold, cut⟩ := t
 have hil : i < S.length := (List.getElem?_eq_some_iff.1 hi).1
 have hsl := hS.l
 have htl := h.tl
 dsimp only at hT htl hk ht ⊢
 obtain ⟨_, ad, rfl, _⟩ := hS.r.ptr (by omega)
 obtain ⟨_, ta, rfl, _⟩ := hT.ptr (by omega)
 have e0 := fun (w' : World) hw' => rd_fld (hS.r.below (w' := w') hw') hi 0 (iv k) rfl
 have e1 := fun (w' : World) hw' => rd_fldz (hT.below (w' := w') hw') ht k hkz 4 (iv lot) rfl
 have e2 := fun (w' : World) hw' => rd_ati (hS.r.below (w' := w') hw') hi
 have e3 := fun (w' : World) hw' => rd_flds (hT.below (w' := w') hw') ht k hkz 1 [iv s1, iv s2] (fun j v hj => by
  match j, hj with
  | 0, hj => exact hj
  | 1, hj => exact hj)
 have e4 := fun (w' : World) hw' => rd_atz (hT.below (w' := w') hw') ht k hkz
 refine calls_val env mixed Try.func145 has145 Try.ntmps145 [.agg #[iv days, iv shift, iv size, .slice (some ta) T.length tc, .slice lo L.length lc], .slice (some ad) S.length c, iv i] (by simp) ?_
 repeat'
  conv => whnf
  first
   | refine zA ?_ | refine zB ?_ | refine zC ?_ | refine zD ?_ | refine zE ?_ | refine zF ?_ | refine zG ?_ | refine zH ?_ | refine zJ ?_ | refine zI ?_ | refine splT ?_ | refine splF ?_ | refine splNot ?_
   | ((first | refine splIn ?_ ?_ | refine splD ?_ ?_ | refine splE ?_ ?_ | refine splNE ?_ ?_) <;> intro hc <;> first | (exfalso; omega) | (exfalso; dsimp only at hc; omega) | skip)
   | refine Exists.intro (α := List Value) [iv k] ⟨⟨rfl, fun w' hw' => e0 w' hw'⟩, ?_⟩
   | refine Exists.intro (α := List Value) [iv lot] ⟨⟨rfl, fun w' hw' => e1 w' hw'⟩, ?_⟩
 all_goals first | (exfalso; omega) | exact ⟨fun β => rfl, fun w' h => h⟩
set_option maxHeartbeats 1000000 in
set_option maxRecDepth 100000 in
theorem test3_ok (hk : 1 ≤ k ∧ k < x.T.length) : Calls Try.prog 146 #[x.v, .slice o S.length c, iv i] w fun e w' => e = .returned (.bool (ts3 x.d k f l)) ∧ Below w.heap.size w w' := by
 obtain ⟨t, ht⟩ : ∃ t, x.T[k.toNat]? = some t := ⟨_, List.getElem?_eq_getElem (by omega)⟩
 have htw := twO_eq (x := x) ht
 have hti := h.ti t (List.mem_of_getElem? ht)
 have hkz : k = k.toNat := by omega
 unfold ts3
 rw [htw]
 have hnb := hS.n _ (List.mem_of_getElem? hi)
 have h147 := fun w' => fits_ok k f l t.d.s1 t.d.s2 w' (by have := hnb.1; dsimp only at this; omega) (by have := hnb.2; dsimp only at this; omega)
 obtain ⟨b, hb⟩ : ∃ b, fitB t.d.s1 t.d.s2 f l = b := ⟨_, rfl⟩
 rw [hb] at h147 ⊢
 obtain ⟨days, shift, size, to, tc, T, lo, lc, L⟩ := x
 have hT := h.t
 obtain ⟨oo, oc, ro, rc, O, s1, s2, pay, lot, rent, R, cold, cut⟩ := t
 have hil : i < S.length := (List.getElem?_eq_some_iff.1 hi).1
 have hsl := hS.l
 have htl := h.tl
 dsimp only at hT htl hk ht ⊢
 obtain ⟨_, ad, rfl, _⟩ := hS.r.ptr (by omega)
 obtain ⟨_, ta, rfl, _⟩ := hT.ptr (by omega)
 have e0 := fun (w' : World) hw' => rd_fld (hS.r.below (w' := w') hw') hi 0 (iv k) rfl
 have e1 := fun (w' : World) hw' => rd_fldz (hT.below (w' := w') hw') ht k hkz 4 (iv lot) rfl
 have e2 := fun (w' : World) hw' => rd_ati (hS.r.below (w' := w') hw') hi
 have e3 := fun (w' : World) hw' => rd_flds (hT.below (w' := w') hw') ht k hkz 1 [iv s1, iv s2] (fun j v hj => by
  match j, hj with
  | 0, hj => exact hj
  | 1, hj => exact hj)
 have e4 := fun (w' : World) hw' => rd_atz (hT.below (w' := w') hw') ht k hkz
 refine calls_val env mixed Try.func146 has146 Try.ntmps146 [.agg #[iv days, iv shift, iv size, .slice (some ta) T.length tc, .slice lo L.length lc], .slice (some ad) S.length c, iv i] (by simp) ?_
 cases b
 all_goals skip
 repeat'
  conv => whnf
  first
   | refine zA ?_ | refine zB ?_ | refine zC ?_ | refine zD ?_ | refine zE ?_ | refine zF ?_ | refine zG ?_ | refine zH ?_ | refine zJ ?_ | refine zI ?_ | refine splT ?_ | refine splF ?_ | refine splNot ?_
   | ((first | refine splIn ?_ ?_ | refine splD ?_ ?_ | refine splE ?_ ?_ | refine splNE ?_ ?_) <;> intro hc <;> first | (exfalso; omega) | (exfalso; dsimp only at hc; omega) | skip)
   | refine Exists.intro (α := List Value) [iv k] ⟨⟨rfl, fun w' hw' => e0 w' hw'⟩, ?_⟩
   | refine Exists.intro (α := List Value) [iv k, iv f, iv l] ⟨⟨rfl, fun w' hw' => e2 w' hw'⟩, ?_⟩
   | refine Exists.intro (α := List Value) [iv s1, iv s2] ⟨⟨rfl, fun w' hw' => e3 w' hw'⟩, ?_⟩
   | ((with_reducible show CallEv _ _ 147 _ _ _ _ _); refine callE (k := 147) (fun β w' hbw => h147 _) ?_)
 all_goals first | (exfalso; omega) | exact ⟨fun β => rfl, fun w' h => h⟩
set_option maxHeartbeats 1000000 in
set_option maxRecDepth 100000 in
theorem test4_ok (hk : 1 ≤ k ∧ k < x.T.length) : Calls Try.prog 148 #[x.v, .slice o S.length c, iv i] w fun e w' => e = .returned (.bool (ts4 x.d k f l)) ∧ Below w.heap.size w w' := by
 obtain ⟨t, ht⟩ : ∃ t, x.T[k.toNat]? = some t := ⟨_, List.getElem?_eq_getElem (by omega)⟩
 have htw := twO_eq (x := x) ht
 have hti := h.ti t (List.mem_of_getElem? ht)
 have hkz : k = k.toNat := by omega
 unfold ts4
 rw [htw]
 have h149 := fun w' hb => licensed_ok t k f l w' (hti.below hb)
 obtain ⟨b, hb⟩ : ∃ b, licB t.d.O f l = b := ⟨_, rfl⟩
 rw [hb] at h149 ⊢
 obtain ⟨days, shift, size, to, tc, T, lo, lc, L⟩ := x
 have hT := h.t
 obtain ⟨oo, oc, ro, rc, O, s1, s2, pay, lot, rent, R, cold, cut⟩ := t
 have hil : i < S.length := (List.getElem?_eq_some_iff.1 hi).1
 have hsl := hS.l
 have htl := h.tl
 dsimp only at hT htl hk ht ⊢
 obtain ⟨_, ad, rfl, _⟩ := hS.r.ptr (by omega)
 obtain ⟨_, ta, rfl, _⟩ := hT.ptr (by omega)
 have e0 := fun (w' : World) hw' => rd_fld (hS.r.below (w' := w') hw') hi 0 (iv k) rfl
 have e1 := fun (w' : World) hw' => rd_fldz (hT.below (w' := w') hw') ht k hkz 4 (iv lot) rfl
 have e2 := fun (w' : World) hw' => rd_ati (hS.r.below (w' := w') hw') hi
 have e3 := fun (w' : World) hw' => rd_flds (hT.below (w' := w') hw') ht k hkz 1 [iv s1, iv s2] (fun j v hj => by
  match j, hj with
  | 0, hj => exact hj
  | 1, hj => exact hj)
 have e4 := fun (w' : World) hw' => rd_atz (hT.below (w' := w') hw') ht k hkz
 refine calls_val env mixed Try.func148 has148 Try.ntmps148 [.agg #[iv days, iv shift, iv size, .slice (some ta) T.length tc, .slice lo L.length lc], .slice (some ad) S.length c, iv i] (by simp) ?_
 cases b
 all_goals skip
 repeat'
  conv => whnf
  first
   | refine zA ?_ | refine zB ?_ | refine zC ?_ | refine zD ?_ | refine zE ?_ | refine zF ?_ | refine zG ?_ | refine zH ?_ | refine zJ ?_ | refine zI ?_ | refine splT ?_ | refine splF ?_ | refine splNot ?_
   | ((first | refine splIn ?_ ?_ | refine splD ?_ ?_ | refine splE ?_ ?_ | refine splNE ?_ ?_) <;> intro hc <;> first | (exfalso; omega) | (exfalso; dsimp only at hc; omega) | skip)
   | refine Exists.intro (α := List Value) [iv k] ⟨⟨rfl, fun w' hw' => e0 w' hw'⟩, ?_⟩
   | refine Exists.intro (α := List Value) [iv k, iv f, iv l] ⟨⟨rfl, fun w' hw' => e2 w' hw'⟩, ?_⟩
   | refine Exists.intro (α := List Value) [.slice oo O.length oc, iv s1, iv s2, iv pay, iv lot, iv rent, .slice ro R.length rc, iv cold, iv cut] ⟨⟨rfl, fun w' hw' => e4 w' hw'⟩, ?_⟩
   | ((with_reducible show CallEv _ _ 149 _ _ _ _ _); refine callE (k := 149) (fun β w' hbw => h149 _ hbw) ?_)
 all_goals first | (exfalso; omega) | exact ⟨fun β => rfl, fun w' h => h⟩
set_option maxHeartbeats 1000000 in
set_option maxRecDepth 100000 in
theorem test5_ok : Calls Try.prog 150 #[x.v, .slice o S.length c, iv i] w fun e w' => e = .returned (.bool (ts5 S i k)) ∧ Below w.heap.size w w' := by
 obtain ⟨days, shift, size, to, tc, T, lo, lc, L⟩ := x
 have hil : i < S.length := (List.getElem?_eq_some_iff.1 hi).1
 have hsl := hS.l
 have hsc := hS.c
 obtain ⟨_, ad, rfl, _⟩ := hS.r.ptr (by omega)
 have e0 := fun (w' : World) hw' => rd_fld (hS.r.below (w' := w') hw') hi 0 (iv k) rfl
 refine calls_val env mixed Try.func150 has150 Try.ntmps150 [.agg #[iv days, iv shift, iv size, .slice to T.length tc, .slice lo L.length lc], .slice (some ad) S.length c, iv i] (by simp) ?_
 repeat'
  conv => whnf
  first
   | refine zA ?_ | refine zB ?_ | refine zC ?_ | refine zD ?_ | refine zE ?_ | refine zF ?_ | refine zG ?_ | refine zH ?_ | refine zJ ?_ | refine zI ?_ | refine splT ?_ | refine splF ?_ | refine splNot ?_
   | ((first | refine splIn ?_ ?_ | refine splD ?_ ?_ | refine splE ?_ ?_ | refine splNE ?_ ?_) <;> intro hc <;> first | (exfalso; omega) | (exfalso; dsimp only at hc; omega) | skip)
   | refine slHi env (z := i) rfl rfl rfl rfl (by omega) rfl ?_
   | ((with_reducible show CallEv _ _ 151 _ _ _ _ _); refine callI env mixed 1000 [] Try.func151 has151 Try.ntmps151 (Nat.le_of_ble_eq_true rfl) rfl rfl rfl ?_)
   | ((with_reducible show CallEv _ _ 167 _ _ _ _ _); refine callI env mixed 2000 [] Try.func167 has167 Try.ntmps167 (Nat.le_of_ble_eq_true rfl) rfl rfl rfl ?_)
 all_goals first | (exfalso; omega) | skip
 refine loopE (fun j : Nat => [(0, .v (.slice (some ad) i c)), (1, .fn (.func 152) [.ptr 1 0, .ptr 2 0]), (7, .v (iv i)), (8, .v (iv j))]) (fun _ => [(0, .cells [.v (iv days), .v (iv shift), .v (iv size), .v (.slice to T.length tc), .v (.slice lo L.length lc)] 35), (1, .cells [.v (.slice (some ad) S.length c)] 28), (2, .cells [.v (iv i)] 3)]) (fun j => j ≤ i ∧ ((S.take j).any fun s => s.1 == k) = false) (fun j => i - j) 0 ⟨Nat.zero_le _, rfl⟩ ⟨rfl, rfl, rfl, rfl, trivial⟩ ⟨rfl, rfl, rfl, trivial⟩ (fun _ => ⟨rfl, rfl⟩) ?_
 intro j ⟨hj, hall⟩
 rcases Nat.lt_or_ge j i with hji | hji
 · obtain ⟨⟨k', f', l'⟩, hx⟩ : ∃ s, S[j]? = some s := ⟨_, List.getElem?_eq_getElem (by omega)⟩
   have e1 := fun (w' : World) hw' => rd_ati (hS.r.below (w' := w') hw') hx
   have ht := any_take (p := fun s : Int × Int × Int => s.1 == k) hx
   rw [hall, Bool.false_or] at ht
   dsimp only at ht
   by_cases hkk : k' = k
   · have hyes : ts5 S i k = true := by
      unfold ts5
      rw [List.any_eq_true]
      exact ⟨(k', f', l'), List.mem_of_getElem? (i := j) (by rw [List.getElem?_take, if_pos hji]; exact hx), by simp [hkk]⟩
     rw [hyes]
     repeat'
      conv => whnf
      first
       | refine zA ?_ | refine zB ?_ | refine zC ?_ | refine zD ?_ | refine zE ?_ | refine zF ?_ | refine zG ?_ | refine zH ?_ | refine zJ ?_ | refine zI ?_ | refine splT ?_ | refine splF ?_ | refine splNot ?_
       | ((first | refine splIn ?_ ?_ | refine splD ?_ ?_ | refine splE ?_ ?_ | refine splNE ?_ ?_) <;> intro hc <;> first | (exfalso; omega) | (exfalso; dsimp only at hc; omega) | skip)
       | refine Exists.intro (α := List Value) [iv k', iv f', iv l'] ⟨⟨rfl, fun w' hw' => e1 w' hw'⟩, ?_⟩
       | ((with_reducible show CallEv _ _ 152 _ _ _ _ _); refine callI env mixed 4000 [0,1,5,7,8] Try.func152 has152 Try.ntmps152 (Nat.le_of_ble_eq_true rfl) rfl rfl rfl ?_)
       | refine Exists.intro (α := List Value) [iv k] ⟨⟨rfl, fun w' hw' => e0 w' hw'⟩, ?_⟩
     all_goals first | (exfalso; omega) | exact ⟨fun β => rfl, fun w' h => h⟩
   · rw [show (k' == k) = false from by simp [hkk]] at ht
     repeat'
      conv => whnf
      first
       | refine zA ?_ | refine zB ?_ | refine zC ?_ | refine zD ?_ | refine zE ?_ | refine zF ?_ | refine zG ?_ | refine zH ?_ | refine zJ ?_ | refine zI ?_ | refine splT ?_ | refine splF ?_ | refine splNot ?_
       | ((first | refine splIn ?_ ?_ | refine splD ?_ ?_ | refine splE ?_ ?_ | refine splNE ?_ ?_) <;> intro hc <;> first | (exfalso; omega) | (exfalso; dsimp only at hc; omega) | skip)
       | refine Exists.intro (α := List Value) [iv k', iv f', iv l'] ⟨⟨rfl, fun w' hw' => e1 w' hw'⟩, ?_⟩
       | ((with_reducible show CallEv _ _ 152 _ _ _ _ _); refine callI env mixed 4000 [0,1,5,7,8] Try.func152 has152 Try.ntmps152 (Nat.le_of_ble_eq_true rfl) rfl rfl rfl ?_)
       | refine Exists.intro (α := List Value) [iv k] ⟨⟨rfl, fun w' hw' => e0 w' hw'⟩, ?_⟩
     all_goals first | (exfalso; omega) | exact ⟨j + 1, ⟨by omega, ht⟩, by omega, Ent.weak rfl ⟨rfl, rfl, rfl, rfl, trivial⟩ ⟨rfl, rfl, rfl, trivial⟩ fun _ h => h⟩
 · obtain rfl : j = i := by omega
   rw [show ts5 S j k = false from hall]
   repeat'
    conv => whnf
    first
     | refine zA ?_ | refine zB ?_ | refine zC ?_ | refine zD ?_ | refine zE ?_ | refine zF ?_ | refine zG ?_ | refine zH ?_ | refine zJ ?_ | refine zI ?_ | refine splT ?_ | refine splF ?_ | refine splNot ?_
     | ((first | refine splIn ?_ ?_ | refine splD ?_ ?_ | refine splE ?_ ?_ | refine splNE ?_ ?_) <;> intro hc <;> first | (exfalso; omega) | (exfalso; dsimp only at hc; omega) | skip)
   all_goals first | (exfalso; omega) | exact ⟨fun β => rfl, fun w' h => h⟩
set_option maxHeartbeats 1000000 in
set_option maxRecDepth 100000 in
theorem test6_ok (hk : 1 ≤ k ∧ k < x.T.length) (hf : 0 ≤ f ∧ f ≤ 59) : Calls Try.prog 153 #[x.v, .slice o S.length c, iv i] w fun e w' => e = .returned (.bool (ts6 x.d S i k f)) ∧ Below w.heap.size w w' := by
 have hnb := hS.n _ (List.mem_of_getElem? hi)
 have hil : i < S.length := (List.getElem?_eq_some_iff.1 hi).1
 have hsl := hS.l
 have htl := h.tl
 have hlen : x.d.T.length = x.T.length := List.length_map ..
 have h72 := fun (p : Int) (hp : 0 ≤ p ∧ p < x.T.length) w' hb => lost_ok x p.toNat k.toNat w' (h.below hb) hn (by omega) (by omega)
 have hls := fun p => hn.lost p k.toNat
 have hp := fun p w' => played_ok x p w' h.tl
 have hkz : (k.toNat : Int) = k := by omega
 rw [hkz] at h72
 obtain ⟨_, ad, rfl, _⟩ := hS.r.ptr (by omega)
 have e0 := fun (w' : World) hw' => rd_fld (hS.r.below (w' := w') hw') hi 0 (iv k) rfl
 have e1 := fun (w' : World) hw' => rd_fld (hS.r.below (w' := w') hw') hi 1 (iv f) rfl
 dsimp only at hnb
 cases i with
 | zero =>
  have h72' := h72 0 (by omega)
  have hl0 := hls (0 : Int).toNat
  show Calls Try.prog 153 _ w fun e w' => e = .returned (.bool (decide (-1 > f - 1 - lsO x.d (0 : Int).toNat k.toNat))) ∧ _
  generalize lsO x.d (0 : Int).toNat k.toNat = g at *
  clear h72 hls
  obtain ⟨days, shift, size, to, tc, T, lo, lc, L⟩ := x
  have hd : ∀ v, v = decide (-1 > f - 1 - g) → decide (-1 > f - 1 - g) = v := fun v h => h.symm
  refine calls_val env mixed Try.func153 has153 Try.ntmps153 [.agg #[iv days, iv shift, iv size, .slice to T.length tc, .slice lo L.length lc], .slice (some ad) S.length c, iv (0 : Nat)] (by simp) ?_
  repeat'
   conv => whnf
   first
    | refine zA ?_ | refine zB ?_ | refine zC ?_ | refine zD ?_ | refine zE ?_ | refine zF ?_ | refine zG ?_ | refine zH ?_ | refine zJ ?_ | refine zI ?_ | refine splT ?_ | refine splF ?_ | refine splNot ?_
    | ((first | refine splIn ?_ ?_ | refine splD ?_ ?_ | refine splE ?_ ?_ | refine splNE ?_ ?_) <;> intro hc <;> first | (exfalso; omega) | (exfalso; dsimp only at hc; omega) | skip)
    | refine Exists.intro (α := List Value) [iv k] ⟨⟨rfl, fun w' hw' => e0 w' hw'⟩, ?_⟩
    | refine Exists.intro (α := List Value) [iv f] ⟨⟨rfl, fun w' hw' => e1 w' hw'⟩, ?_⟩
    | ((with_reducible show CallEv _ _ 72 _ _ _ _ _); refine callE (k := 72) (fun β w' hbw => h72' _ hbw) ?_)
  all_goals first | (exfalso; omega) | exact ⟨fun β => rfl, fun w' h => h⟩
 | succ j =>
  obtain ⟨⟨p, q, r⟩, hx⟩ : ∃ s, S[j]? = some s := ⟨_, List.getElem?_eq_getElem (by omega)⟩
  have hnp := (hS.n _ (List.mem_of_getElem? hx)).2
  dsimp only at hnp
  have e2 := fun (w' : World) hw' => rd_atz (hS.r.below (w' := w') hw') hx (((j + 1 : Nat) : Int) - 1) (by omega)
  simp only [ts6, hx, hlen]
  have hpp := hp p
  obtain ⟨b, hb⟩ : ∃ b, inB p 1 ((x.T.length : Int) - 1) = b := ⟨_, rfl⟩
  rw [hb] at hpp ⊢
  cases b with
  | false =>
   clear h72 hls hp
   obtain ⟨days, shift, size, to, tc, T, lo, lc, L⟩ := x
   refine calls_val env mixed Try.func153 has153 Try.ntmps153 [.agg #[iv days, iv shift, iv size, .slice to T.length tc, .slice lo L.length lc], .slice (some ad) S.length c, iv (j + 1 : Nat)] (by simp) ?_
   repeat'
    conv => whnf
    first
     | refine zA ?_ | refine zB ?_ | refine zC ?_ | refine zD ?_ | refine zE ?_ | refine zF ?_ | refine zG ?_ | refine zH ?_ | refine zJ ?_ | refine zI ?_ | refine splT ?_ | refine splF ?_ | refine splNot ?_
     | ((first | refine splIn ?_ ?_ | refine splD ?_ ?_ | refine splE ?_ ?_ | refine splNE ?_ ?_) <;> intro hc <;> first | (exfalso; omega) | (exfalso; dsimp only at hc; omega) | skip)
     | refine Exists.intro (α := List Value) [iv p, iv q, iv r] ⟨⟨rfl, fun w' hw' => e2 w' hw'⟩, ?_⟩
     | ((with_reducible show CallEv _ _ 69 _ _ _ _ _); refine callE (k := 69) (fun β w' hbw => hpp _) ?_)
   all_goals first | (exfalso; omega) | exact ⟨fun β => rfl, fun w' h => h⟩
  | true =>
   simp only [inB, Bool.and_eq_true, decide_eq_true_eq] at hb
   have h72' := h72 p (by omega)
   have hl0 := hls p.toNat
   have hpz : (p.toNat : Int) = p := by omega
   rw [hpz] at h72'
   generalize lsO x.d p.toNat k.toNat = g at *
   clear h72 hls hp
   obtain ⟨days, shift, size, to, tc, T, lo, lc, L⟩ := x
   refine calls_val env mixed Try.func153 has153 Try.ntmps153 [.agg #[iv days, iv shift, iv size, .slice to T.length tc, .slice lo L.length lc], .slice (some ad) S.length c, iv (j + 1 : Nat)] (by simp) ?_
   repeat'
    conv => whnf
    first
     | refine zA ?_ | refine zB ?_ | refine zC ?_ | refine zD ?_ | refine zE ?_ | refine zF ?_ | refine zG ?_ | refine zH ?_ | refine zJ ?_ | refine zI ?_ | refine splT ?_ | refine splF ?_ | refine splNot ?_
     | ((first | refine splIn ?_ ?_ | refine splD ?_ ?_ | refine splE ?_ ?_ | refine splNE ?_ ?_) <;> intro hc <;> first | (exfalso; omega) | (exfalso; dsimp only at hc; omega) | skip)
     | refine Exists.intro (α := List Value) [iv p, iv q, iv r] ⟨⟨rfl, fun w' hw' => e2 w' hw'⟩, ?_⟩
     | ((with_reducible show CallEv _ _ 69 _ _ _ _ _); refine callE (k := 69) (fun β w' hbw => hpp _) ?_)
     | refine Exists.intro (α := List Value) [iv k] ⟨⟨rfl, fun w' hw' => e0 w' hw'⟩, ?_⟩
     | refine Exists.intro (α := List Value) [iv f] ⟨⟨rfl, fun w' hw' => e1 w' hw'⟩, ?_⟩
     | ((with_reducible show CallEv _ _ 72 _ _ _ _ _); refine callE (k := 72) (fun β w' hbw => h72' _ hbw) ?_)
   all_goals first | (exfalso; omega) | exact ⟨fun β => rfl, fun w' h => h⟩
set_option maxHeartbeats 1000000 in
set_option maxRecDepth 100000 in
theorem test7_ok (hk : 1 ≤ k ∧ k < x.T.length) (hl : 0 ≤ l ∧ l ≤ 59) : Calls Try.prog 154 #[x.v, .slice o S.length c, iv i] w fun e w' => e = .returned (.bool (ts7 x.d S i k l)) ∧ Below w.heap.size w w' := by
 have hnb := hS.n _ (List.mem_of_getElem? hi)
 have hil : i < S.length := (List.getElem?_eq_some_iff.1 hi).1
 have hsl := hS.l
 have htl := h.tl
 have hd := hn.d
 have h72 := fun w' hb => lost_ok x k.toNat 0 w' (h.below hb) hn (by omega) (by omega)
 have hls := hn.lost k.toNat 0
 have hkz : (k.toNat : Int) = k := by omega
 rw [hkz] at h72
 obtain ⟨_, ad, rfl, _⟩ := hS.r.ptr (by omega)
 have e0 := fun (w' : World) hw' => rd_fld (hS.r.below (w' := w') hw') hi 0 (iv k) rfl
 have e1 := fun (w' : World) hw' => rd_fld (hS.r.below (w' := w') hw') hi 2 (iv l) rfl
 dsimp only at hnb
 unfold ts7
 generalize lsO x.d k.toNat 0 = g at *
 have hdx : x.d.days = x.days := rfl
 rw [hdx] at hd ⊢
 obtain ⟨days, shift, size, to, tc, T, lo, lc, L⟩ := x
 dsimp only at hd ⊢
 refine calls_val env mixed Try.func154 has154 Try.ntmps154 [.agg #[iv days, iv shift, iv size, .slice to T.length tc, .slice lo L.length lc], .slice (some ad) S.length c, iv i] (by simp) ?_
 by_cases hq : i + 1 = S.length
 · rw [decide_eq_true hq, Bool.true_and]
   repeat'
    conv => whnf
    first
     | refine zA ?_ | refine zB ?_ | refine zC ?_ | refine zD ?_ | refine zE ?_ | refine zF ?_ | refine zG ?_ | refine zH ?_ | refine zJ ?_ | refine zI ?_ | refine splT ?_ | refine splF ?_ | refine splNot ?_
     | ((first | refine splIn ?_ ?_ | refine splD ?_ ?_ | refine splE ?_ ?_ | refine splNE ?_ ?_) <;> intro hc <;> first | (exfalso; omega) | (exfalso; dsimp only at hc; omega) | skip)
     | refine Exists.intro (α := List Value) [iv k] ⟨⟨rfl, fun w' hw' => e0 w' hw'⟩, ?_⟩
     | refine Exists.intro (α := List Value) [iv l] ⟨⟨rfl, fun w' hw' => e1 w' hw'⟩, ?_⟩
     | ((with_reducible show CallEv _ _ 72 _ _ _ _ _); refine callE (k := 72) (fun β w' hbw => h72 _ hbw) ?_)
   all_goals first | (exfalso; omega) | exact ⟨fun β => rfl, fun w' h => h⟩
 · rw [decide_eq_false hq, Bool.false_and]
   repeat'
    conv => whnf
    first
     | refine zA ?_ | refine zB ?_ | refine zC ?_ | refine zD ?_ | refine zE ?_ | refine zF ?_ | refine zG ?_ | refine zH ?_ | refine zJ ?_ | refine zI ?_ | refine splT ?_ | refine splF ?_ | refine splNot ?_
     | ((first | refine splIn ?_ ?_ | refine splD ?_ ?_ | refine splE ?_ ?_ | refine splNE ?_ ?_) <;> intro hc <;> first | (exfalso; omega) | (exfalso; dsimp only at hc; omega) | skip)
     | refine Exists.intro (α := List Value) [iv k] ⟨⟨rfl, fun w' hw' => e0 w' hw'⟩, ?_⟩
     | refine Exists.intro (α := List Value) [iv l] ⟨⟨rfl, fun w' hw' => e1 w' hw'⟩, ?_⟩
     | ((with_reducible show CallEv _ _ 72 _ _ _ _ _); refine callE (k := 72) (fun β w' hbw => h72 _ hbw) ?_)
   all_goals first | (exfalso; omega) | exact ⟨fun β => rfl, fun w' h => h⟩
end
end Go.Proofs.Ythfabodamhdhaaa
