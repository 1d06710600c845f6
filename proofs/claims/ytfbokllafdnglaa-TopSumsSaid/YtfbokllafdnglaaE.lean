/- The table of types and of entered functions that the engine looks into; each row is a closed fact of the program. By gen_env.py. -/
import Derived.Test.YtfbokllafdnglaaRows
import Derived.Test.YtfbokllafdnglaaB
namespace Go.Proofs.Ytfbokllafdnglaa
open Go Tx
set_option maxRecDepth 100000
def ti1 : TI := ⟨1, [.nilFunc], 8, .plain⟩
theorem tok1 : TOK Try.prog 1 ti1 := ⟨by kernel_rfl, by kernel_rfl⟩
def ti2 : TI := ⟨1, [.int .i64 0], 8, .int .i64⟩
theorem tok2 : TOK Try.prog 2 ti2 := ⟨by kernel_rfl, by kernel_rfl⟩
def ti3 : TI := ⟨1, [.int .i64 0], 8, .int .i64⟩
theorem tok3 : TOK Try.prog 3 ti3 := ⟨by kernel_rfl, by kernel_rfl⟩
def ti4 : TI := ⟨1, [.bool false], 1, .plain⟩
theorem tok4 : TOK Try.prog 4 ti4 := ⟨by kernel_rfl, by kernel_rfl⟩
def ti5 : TI := ⟨1, [.int .u8 0], 1, .int .u8⟩
theorem tok5 : TOK Try.prog 5 ti5 := ⟨by kernel_rfl, by kernel_rfl⟩
def ti6 : TI := ⟨1, [.int .u8 0], 1, .int .u8⟩
theorem tok6 : TOK Try.prog 6 ti6 := ⟨by kernel_rfl, by kernel_rfl⟩
def ti7 : TI := ⟨4, [.int .i64 0, .int .i64 0, .bool false, .int .u8 0], 24, .struct [(0, 2), (1, 3), (2, 4), (3, 6)]⟩
theorem tok7 : TOK Try.prog 7 ti7 := ⟨by kernel_rfl, by kernel_rfl⟩
def ti8 : TI := ⟨4, [.int .i64 0, .int .i64 0, .bool false, .int .u8 0], 24, .struct [(0, 2), (1, 3), (2, 4), (3, 6)]⟩
theorem tok8 : TOK Try.prog 8 ti8 := ⟨by kernel_rfl, by kernel_rfl⟩
def ti9 : TI := ⟨1, [.string ByteArray.empty], 16, .plain⟩
theorem tok9 : TOK Try.prog 9 ti9 := ⟨by kernel_rfl, by kernel_rfl⟩
def ti10 : TI := ⟨1, [.string ByteArray.empty], 16, .plain⟩
theorem tok10 : TOK Try.prog 10 ti10 := ⟨by kernel_rfl, by kernel_rfl⟩
def ti11 : TI := ⟨1, [.string ByteArray.empty], 16, .plain⟩
theorem tok11 : TOK Try.prog 11 ti11 := ⟨by kernel_rfl, by kernel_rfl⟩
def ti12 : TI := ⟨1, [.int .u64 0], 8, .int .u64⟩
theorem tok12 : TOK Try.prog 12 ti12 := ⟨by kernel_rfl, by kernel_rfl⟩
def ti13 : TI := ⟨2, [.string ByteArray.empty, .int .u64 0], 24, .struct [(0, 9), (1, 12)]⟩
theorem tok13 : TOK Try.prog 13 ti13 := ⟨by kernel_rfl, by kernel_rfl⟩
def ti14 : TI := ⟨2, [.string ByteArray.empty, .int .u64 0], 24, .struct [(0, 9), (1, 12)]⟩
theorem tok14 : TOK Try.prog 14 ti14 := ⟨by kernel_rfl, by kernel_rfl⟩
def ti15 : TI := ⟨1, [.pointer none], 8, .plain⟩
theorem tok15 : TOK Try.prog 15 ti15 := ⟨by kernel_rfl, by kernel_rfl⟩
def ti16 : TI := ⟨1, [.pointer none], 8, .plain⟩
theorem tok16 : TOK Try.prog 16 ti16 := ⟨by kernel_rfl, by kernel_rfl⟩
def ti17 : TI := ⟨1, [.pointer none], 8, .plain⟩
theorem tok17 : TOK Try.prog 17 ti17 := ⟨by kernel_rfl, by kernel_rfl⟩
def ti18 : TI := ⟨1, [.pointer none], 8, .struct [(0, 17)]⟩
theorem tok18 : TOK Try.prog 18 ti18 := ⟨by kernel_rfl, by kernel_rfl⟩
def ti19 : TI := ⟨1, [.pointer none], 8, .struct [(0, 17)]⟩
theorem tok19 : TOK Try.prog 19 ti19 := ⟨by kernel_rfl, by kernel_rfl⟩
def ti21 : TI := ⟨1, [.int .i32 0], 4, .int .i32⟩
theorem tok21 : TOK Try.prog 21 ti21 := ⟨by kernel_rfl, by kernel_rfl⟩
def ti22 : TI := ⟨1, [.slice none 0 0], 24, .slice 36⟩
theorem tok22 : TOK Try.prog 22 ti22 := ⟨by kernel_rfl, by kernel_rfl⟩
def ti23 : TI := ⟨1, [.slice none 0 0], 24, .slice 36⟩
theorem tok23 : TOK Try.prog 23 ti23 := ⟨by kernel_rfl, by kernel_rfl⟩
def ti24 : TI := ⟨1, [.nilFunc], 8, .plain⟩
theorem tok24 : TOK Try.prog 24 ti24 := ⟨by kernel_rfl, by kernel_rfl⟩
def ti25 : TI := ⟨1, [.nilFunc], 8, .plain⟩
theorem tok25 : TOK Try.prog 25 ti25 := ⟨by kernel_rfl, by kernel_rfl⟩
def ti26 : TI := ⟨1, [.nilFunc], 8, .plain⟩
theorem tok26 : TOK Try.prog 26 ti26 := ⟨by kernel_rfl, by kernel_rfl⟩
def ti27 : TI := ⟨1, [.slice none 0 0], 24, .slice 3⟩
theorem tok27 : TOK Try.prog 27 ti27 := ⟨by kernel_rfl, by kernel_rfl⟩
def ti28 : TI := ⟨1, [.int .i64 0], 8, .int .i64⟩
theorem tok28 : TOK Try.prog 28 ti28 := ⟨by kernel_rfl, by kernel_rfl⟩
def ti30 : TI := ⟨1, [.nilFunc], 8, .plain⟩
theorem tok30 : TOK Try.prog 30 ti30 := ⟨by kernel_rfl, by kernel_rfl⟩
def ti31 : TI := ⟨1, [.slice none 0 0], 24, .slice 113⟩
theorem tok31 : TOK Try.prog 31 ti31 := ⟨by kernel_rfl, by kernel_rfl⟩
def ti32 : TI := ⟨1, [.slice none 0 0], 24, .slice 113⟩
theorem tok32 : TOK Try.prog 32 ti32 := ⟨by kernel_rfl, by kernel_rfl⟩
def ti33 : TI := ⟨1, [.nilFunc], 8, .plain⟩
theorem tok33 : TOK Try.prog 33 ti33 := ⟨by kernel_rfl, by kernel_rfl⟩
def ti34 : TI := ⟨1, [.slice none 0 0], 24, .slice 45⟩
theorem tok34 : TOK Try.prog 34 ti34 := ⟨by kernel_rfl, by kernel_rfl⟩
def ti35 : TI := ⟨3, [.int .i64 0, .int .i64 0, .slice none 0 0], 40, .struct [(0, 3), (1, 3), (2, 34)]⟩
theorem tok35 : TOK Try.prog 35 ti35 := ⟨by kernel_rfl, by kernel_rfl⟩
def ti36 : TI := ⟨3, [.int .i64 0, .int .i64 0, .slice none 0 0], 40, .struct [(0, 3), (1, 3), (2, 34)]⟩
theorem tok36 : TOK Try.prog 36 ti36 := ⟨by kernel_rfl, by kernel_rfl⟩
def ti37 : TI := ⟨3, [.int .i64 0, .int .i64 0, .int .i64 0], 24, .arr 3 3⟩
theorem tok37 : TOK Try.prog 37 ti37 := ⟨by kernel_rfl, by kernel_rfl⟩
def ti38 : TI := ⟨1, [.slice none 0 0], 24, .slice 134⟩
theorem tok38 : TOK Try.prog 38 ti38 := ⟨by kernel_rfl, by kernel_rfl⟩
def ti39 : TI := ⟨1, [.slice none 0 0], 24, .slice 47⟩
theorem tok39 : TOK Try.prog 39 ti39 := ⟨by kernel_rfl, by kernel_rfl⟩
def ti40 : TI := ⟨6, [.slice none 0 0, .slice none 0 0, .int .i64 0, .int .i64 0, .int .i64 0, .slice none 0 0], 96, .struct [(0, 27), (1, 38), (2, 37), (5, 39)]⟩
theorem tok40 : TOK Try.prog 40 ti40 := ⟨by kernel_rfl, by kernel_rfl⟩
def ti41 : TI := ⟨6, [.slice none 0 0, .slice none 0 0, .int .i64 0, .int .i64 0, .int .i64 0, .slice none 0 0], 96, .struct [(0, 27), (1, 38), (2, 37), (5, 39)]⟩
theorem tok41 : TOK Try.prog 41 ti41 := ⟨by kernel_rfl, by kernel_rfl⟩
def ti42 : TI := ⟨2, [.int .i64 0, .int .i64 0], 16, .struct [(0, 3), (1, 3)]⟩
theorem tok42 : TOK Try.prog 42 ti42 := ⟨by kernel_rfl, by kernel_rfl⟩
def ti43 : TI := ⟨2, [.int .i64 0, .int .i64 0], 16, .struct [(0, 3), (1, 3)]⟩
theorem tok43 : TOK Try.prog 43 ti43 := ⟨by kernel_rfl, by kernel_rfl⟩
def ti44 : TI := ⟨5, [.int .i64 0, .int .i64 0, .int .i64 0, .int .i64 0, .int .i64 0], 40, .struct [(0, 3), (1, 3), (2, 3), (3, 3), (4, 3)]⟩
theorem tok44 : TOK Try.prog 44 ti44 := ⟨by kernel_rfl, by kernel_rfl⟩
def ti45 : TI := ⟨5, [.int .i64 0, .int .i64 0, .int .i64 0, .int .i64 0, .int .i64 0], 40, .struct [(0, 3), (1, 3), (2, 3), (3, 3), (4, 3)]⟩
theorem tok45 : TOK Try.prog 45 ti45 := ⟨by kernel_rfl, by kernel_rfl⟩
def ti46 : TI := ⟨5, [.int .i64 0, .int .i64 0, .int .u8 0, .int .i64 0, .int .i64 0], 40, .struct [(0, 43), (2, 5), (3, 3), (4, 3)]⟩
theorem tok46 : TOK Try.prog 46 ti46 := ⟨by kernel_rfl, by kernel_rfl⟩
def ti47 : TI := ⟨5, [.int .i64 0, .int .i64 0, .int .u8 0, .int .i64 0, .int .i64 0], 40, .struct [(0, 43), (2, 5), (3, 3), (4, 3)]⟩
theorem tok47 : TOK Try.prog 47 ti47 := ⟨by kernel_rfl, by kernel_rfl⟩
def ti48 : TI := ⟨2, [.int .i64 0, .int .i64 0], 16, .struct [(0, 3), (1, 3)]⟩
theorem tok48 : TOK Try.prog 48 ti48 := ⟨by kernel_rfl, by kernel_rfl⟩
def ti50 : TI := ⟨1, [.nilFunc], 8, .plain⟩
theorem tok50 : TOK Try.prog 50 ti50 := ⟨by kernel_rfl, by kernel_rfl⟩
def ti51 : TI := ⟨1, [.slice none 0 0], 24, .slice 124⟩
theorem tok51 : TOK Try.prog 51 ti51 := ⟨by kernel_rfl, by kernel_rfl⟩
def ti52 : TI := ⟨1, [.slice none 0 0], 24, .slice 96⟩
theorem tok52 : TOK Try.prog 52 ti52 := ⟨by kernel_rfl, by kernel_rfl⟩
def ti53 : TI := ⟨6, [.slice none 0 0, .slice none 0 0, .int .i64 0, .int .i64 0, .int .i64 0, .slice none 0 0], 96, .struct [(0, 27), (1, 51), (2, 37), (5, 52)]⟩
theorem tok53 : TOK Try.prog 53 ti53 := ⟨by kernel_rfl, by kernel_rfl⟩
def ti54 : TI := ⟨6, [.slice none 0 0, .slice none 0 0, .int .i64 0, .int .i64 0, .int .i64 0, .slice none 0 0], 96, .struct [(0, 27), (1, 51), (2, 37), (5, 52)]⟩
theorem tok54 : TOK Try.prog 54 ti54 := ⟨by kernel_rfl, by kernel_rfl⟩
def ti55 : TI := ⟨2, [.int .i64 0, .int .i64 0], 16, .struct [(0, 3), (1, 3)]⟩
theorem tok55 : TOK Try.prog 55 ti55 := ⟨by kernel_rfl, by kernel_rfl⟩
def ti56 : TI := ⟨2, [.int .i64 0, .int .i64 0], 16, .struct [(0, 3), (1, 3)]⟩
theorem tok56 : TOK Try.prog 56 ti56 := ⟨by kernel_rfl, by kernel_rfl⟩
def ti57 : TI := ⟨2, [.int .i64 0, .int .i64 0], 16, .struct [(0, 3), (1, 3)]⟩
theorem tok57 : TOK Try.prog 57 ti57 := ⟨by kernel_rfl, by kernel_rfl⟩
def ti58 : TI := ⟨4, [.int .i64 0, .int .i64 0, .int .i64 0, .int .i64 0], 32, .struct [(0, 57), (2, 57)]⟩
theorem tok58 : TOK Try.prog 58 ti58 := ⟨by kernel_rfl, by kernel_rfl⟩
def ti59 : TI := ⟨4, [.int .i64 0, .int .i64 0, .int .i64 0, .int .i64 0], 32, .struct [(0, 57), (2, 57)]⟩
theorem tok59 : TOK Try.prog 59 ti59 := ⟨by kernel_rfl, by kernel_rfl⟩
def ti60 : TI := ⟨9, [.int .i64 0, .int .i64 0, .int .i64 0, .int .i64 0, .int .i64 0, .int .i64 0, .int .i64 0, .int .i64 0, .int .i64 0], 72, .struct [(0, 59), (4, 59), (8, 3)]⟩
theorem tok60 : TOK Try.prog 60 ti60 := ⟨by kernel_rfl, by kernel_rfl⟩
def ti61 : TI := ⟨9, [.int .i64 0, .int .i64 0, .int .i64 0, .int .i64 0, .int .i64 0, .int .i64 0, .int .i64 0, .int .i64 0, .int .i64 0], 72, .struct [(0, 59), (4, 59), (8, 3)]⟩
theorem tok61 : TOK Try.prog 61 ti61 := ⟨by kernel_rfl, by kernel_rfl⟩
def ti62 : TI := ⟨1, [.slice none 0 0], 24, .slice 59⟩
theorem tok62 : TOK Try.prog 62 ti62 := ⟨by kernel_rfl, by kernel_rfl⟩
def ti63 : TI := ⟨4, [.slice none 0 0, .int .i64 0, .int .i64 0, .int .i64 0], 48, .struct [(0, 62), (1, 3), (2, 3), (3, 3)]⟩
theorem tok63 : TOK Try.prog 63 ti63 := ⟨by kernel_rfl, by kernel_rfl⟩
def ti64 : TI := ⟨4, [.slice none 0 0, .int .i64 0, .int .i64 0, .int .i64 0], 48, .struct [(0, 62), (1, 3), (2, 3), (3, 3)]⟩
theorem tok64 : TOK Try.prog 64 ti64 := ⟨by kernel_rfl, by kernel_rfl⟩
def ti65 : TI := ⟨15, [.int .i64 0, .int .i64 0, .int .i64 0, .int .i64 0, .int .i64 0, .int .i64 0, .int .i64 0, .int .i64 0, .int .i64 0, .slice none 0 0, .int .i64 0, .int .i64 0, .int .i64 0, .int .i64 0, .int .i64 0], 136, .struct [(0, 61), (9, 64), (13, 3), (14, 3)]⟩
theorem tok65 : TOK Try.prog 65 ti65 := ⟨by kernel_rfl, by kernel_rfl⟩
def ti66 : TI := ⟨15, [.int .i64 0, .int .i64 0, .int .i64 0, .int .i64 0, .int .i64 0, .int .i64 0, .int .i64 0, .int .i64 0, .int .i64 0, .slice none 0 0, .int .i64 0, .int .i64 0, .int .i64 0, .int .i64 0, .int .i64 0], 136, .struct [(0, 61), (9, 64), (13, 3), (14, 3)]⟩
theorem tok66 : TOK Try.prog 66 ti66 := ⟨by kernel_rfl, by kernel_rfl⟩
def ti67 : TI := ⟨1, [.int .u16 0], 2, .int .u16⟩
theorem tok67 : TOK Try.prog 67 ti67 := ⟨by kernel_rfl, by kernel_rfl⟩
def ti68 : TI := ⟨1, [.nilFunc], 8, .plain⟩
theorem tok68 : TOK Try.prog 68 ti68 := ⟨by kernel_rfl, by kernel_rfl⟩
def ti69 : TI := ⟨1, [.nilFunc], 8, .plain⟩
theorem tok69 : TOK Try.prog 69 ti69 := ⟨by kernel_rfl, by kernel_rfl⟩
def ti71 : TI := ⟨1, [.nilFunc], 8, .plain⟩
theorem tok71 : TOK Try.prog 71 ti71 := ⟨by kernel_rfl, by kernel_rfl⟩
def ti72 : TI := ⟨1, [.nilFunc], 8, .plain⟩
theorem tok72 : TOK Try.prog 72 ti72 := ⟨by kernel_rfl, by kernel_rfl⟩
def ti73 : TI := ⟨2, [.int .i64 0, .int .i64 0], 16, .struct [(0, 3), (1, 3)]⟩
theorem tok73 : TOK Try.prog 73 ti73 := ⟨by kernel_rfl, by kernel_rfl⟩
def ti74 : TI := ⟨4, [.int .i64 0, .int .i64 0, .int .i64 0, .int .i64 0], 32, .struct [(0, 73), (2, 73)]⟩
theorem tok74 : TOK Try.prog 74 ti74 := ⟨by kernel_rfl, by kernel_rfl⟩
def ti75 : TI := ⟨4, [.int .i64 0, .int .i64 0, .int .i64 0, .int .i64 0], 32, .struct [(0, 73), (2, 73)]⟩
theorem tok75 : TOK Try.prog 75 ti75 := ⟨by kernel_rfl, by kernel_rfl⟩
def ti76 : TI := ⟨9, [.int .i64 0, .int .i64 0, .int .i64 0, .int .i64 0, .int .i64 0, .int .i64 0, .int .i64 0, .int .i64 0, .int .i64 0], 72, .struct [(0, 75), (4, 75), (8, 3)]⟩
theorem tok76 : TOK Try.prog 76 ti76 := ⟨by kernel_rfl, by kernel_rfl⟩
def ti77 : TI := ⟨9, [.int .i64 0, .int .i64 0, .int .i64 0, .int .i64 0, .int .i64 0, .int .i64 0, .int .i64 0, .int .i64 0, .int .i64 0], 72, .struct [(0, 75), (4, 75), (8, 3)]⟩
theorem tok77 : TOK Try.prog 77 ti77 := ⟨by kernel_rfl, by kernel_rfl⟩
def ti78 : TI := ⟨1, [.slice none 0 0], 24, .slice 75⟩
theorem tok78 : TOK Try.prog 78 ti78 := ⟨by kernel_rfl, by kernel_rfl⟩
def ti79 : TI := ⟨4, [.slice none 0 0, .int .i64 0, .int .i64 0, .int .i64 0], 48, .struct [(0, 78), (1, 3), (2, 3), (3, 3)]⟩
theorem tok79 : TOK Try.prog 79 ti79 := ⟨by kernel_rfl, by kernel_rfl⟩
def ti80 : TI := ⟨4, [.slice none 0 0, .int .i64 0, .int .i64 0, .int .i64 0], 48, .struct [(0, 78), (1, 3), (2, 3), (3, 3)]⟩
theorem tok80 : TOK Try.prog 80 ti80 := ⟨by kernel_rfl, by kernel_rfl⟩
def ti81 : TI := ⟨15, [.int .i64 0, .int .i64 0, .int .i64 0, .int .i64 0, .int .i64 0, .int .i64 0, .int .i64 0, .int .i64 0, .int .i64 0, .slice none 0 0, .int .i64 0, .int .i64 0, .int .i64 0, .int .i64 0, .int .i64 0], 136, .struct [(0, 77), (9, 80), (13, 3), (14, 3)]⟩
theorem tok81 : TOK Try.prog 81 ti81 := ⟨by kernel_rfl, by kernel_rfl⟩
def ti82 : TI := ⟨15, [.int .i64 0, .int .i64 0, .int .i64 0, .int .i64 0, .int .i64 0, .int .i64 0, .int .i64 0, .int .i64 0, .int .i64 0, .slice none 0 0, .int .i64 0, .int .i64 0, .int .i64 0, .int .i64 0, .int .i64 0], 136, .struct [(0, 77), (9, 80), (13, 3), (14, 3)]⟩
theorem tok82 : TOK Try.prog 82 ti82 := ⟨by kernel_rfl, by kernel_rfl⟩
def ti83 : TI := ⟨1, [.nilFunc], 8, .plain⟩
theorem tok83 : TOK Try.prog 83 ti83 := ⟨by kernel_rfl, by kernel_rfl⟩
def ti84 : TI := ⟨1, [.nilFunc], 8, .plain⟩
theorem tok84 : TOK Try.prog 84 ti84 := ⟨by kernel_rfl, by kernel_rfl⟩
def ti85 : TI := ⟨2, [.int .i64 0, .int .i64 0], 16, .arr 2 3⟩
theorem tok85 : TOK Try.prog 85 ti85 := ⟨by kernel_rfl, by kernel_rfl⟩
def ti86 : TI := ⟨1, [.nilFunc], 8, .plain⟩
theorem tok86 : TOK Try.prog 86 ti86 := ⟨by kernel_rfl, by kernel_rfl⟩
def ti87 : TI := ⟨2, [.int .i64 0, .int .i64 0], 16, .struct [(0, 3), (1, 3)]⟩
theorem tok87 : TOK Try.prog 87 ti87 := ⟨by kernel_rfl, by kernel_rfl⟩
def ti88 : TI := ⟨5, [.int .i64 0, .int .i64 0, .int .i64 0, .int .i64 0, .int .i64 0], 40, .struct [(0, 3), (1, 87), (3, 3), (4, 3)]⟩
theorem tok88 : TOK Try.prog 88 ti88 := ⟨by kernel_rfl, by kernel_rfl⟩
def ti89 : TI := ⟨5, [.int .i64 0, .int .i64 0, .int .i64 0, .int .i64 0, .int .i64 0], 40, .struct [(0, 3), (1, 87), (3, 3), (4, 3)]⟩
theorem tok89 : TOK Try.prog 89 ti89 := ⟨by kernel_rfl, by kernel_rfl⟩
def ti90 : TI := ⟨1, [.slice none 0 0], 24, .slice 89⟩
theorem tok90 : TOK Try.prog 90 ti90 := ⟨by kernel_rfl, by kernel_rfl⟩
def ti91 : TI := ⟨2, [.slice none 0 0, .int .i64 0], 32, .struct [(0, 90), (1, 3)]⟩
theorem tok91 : TOK Try.prog 91 ti91 := ⟨by kernel_rfl, by kernel_rfl⟩
def ti92 : TI := ⟨2, [.slice none 0 0, .int .i64 0], 32, .struct [(0, 90), (1, 3)]⟩
theorem tok92 : TOK Try.prog 92 ti92 := ⟨by kernel_rfl, by kernel_rfl⟩
def ti93 : TI := ⟨2, [.int .i64 0, .int .i64 0], 16, .struct [(0, 3), (1, 3)]⟩
theorem tok93 : TOK Try.prog 93 ti93 := ⟨by kernel_rfl, by kernel_rfl⟩
def ti94 : TI := ⟨1, [.nilFunc], 8, .plain⟩
theorem tok94 : TOK Try.prog 94 ti94 := ⟨by kernel_rfl, by kernel_rfl⟩
def ti95 : TI := ⟨5, [.int .i64 0, .int .i64 0, .int .u8 0, .int .i64 0, .int .i64 0], 40, .struct [(0, 55), (2, 5), (3, 3), (4, 3)]⟩
theorem tok95 : TOK Try.prog 95 ti95 := ⟨by kernel_rfl, by kernel_rfl⟩
def ti96 : TI := ⟨5, [.int .i64 0, .int .i64 0, .int .u8 0, .int .i64 0, .int .i64 0], 40, .struct [(0, 55), (2, 5), (3, 3), (4, 3)]⟩
theorem tok96 : TOK Try.prog 96 ti96 := ⟨by kernel_rfl, by kernel_rfl⟩
def ti97 : TI := ⟨1, [.slice none 0 0], 24, .slice 87⟩
theorem tok97 : TOK Try.prog 97 ti97 := ⟨by kernel_rfl, by kernel_rfl⟩
def ti99 : TI := ⟨1, [.nilFunc], 8, .plain⟩
theorem tok99 : TOK Try.prog 99 ti99 := ⟨by kernel_rfl, by kernel_rfl⟩
def ti101 : TI := ⟨1, [.nilFunc], 8, .plain⟩
theorem tok101 : TOK Try.prog 101 ti101 := ⟨by kernel_rfl, by kernel_rfl⟩
def ti102 : TI := ⟨1, [.slice none 0 0], 24, .slice 106⟩
theorem tok102 : TOK Try.prog 102 ti102 := ⟨by kernel_rfl, by kernel_rfl⟩
def ti103 : TI := ⟨1, [.slice none 0 0], 24, .slice 149⟩
theorem tok103 : TOK Try.prog 103 ti103 := ⟨by kernel_rfl, by kernel_rfl⟩
def ti105 : TI := ⟨1, [.nilFunc], 8, .plain⟩
theorem tok105 : TOK Try.prog 105 ti105 := ⟨by kernel_rfl, by kernel_rfl⟩
def ti106 : TI := ⟨2, [.int .i64 0, .int .i64 0], 16, .struct [(0, 3), (1, 3)]⟩
theorem tok106 : TOK Try.prog 106 ti106 := ⟨by kernel_rfl, by kernel_rfl⟩
def ti107 : TI := ⟨1, [.slice none 0 0], 24, .slice 213⟩
theorem tok107 : TOK Try.prog 107 ti107 := ⟨by kernel_rfl, by kernel_rfl⟩
def ti108 : TI := ⟨1, [.nilFunc], 8, .plain⟩
theorem tok108 : TOK Try.prog 108 ti108 := ⟨by kernel_rfl, by kernel_rfl⟩
def ti109 : TI := ⟨1, [.nilFunc], 8, .plain⟩
theorem tok109 : TOK Try.prog 109 ti109 := ⟨by kernel_rfl, by kernel_rfl⟩
def ti110 : TI := ⟨1, [.nilFunc], 8, .plain⟩
theorem tok110 : TOK Try.prog 110 ti110 := ⟨by kernel_rfl, by kernel_rfl⟩
def ti111 : TI := ⟨1, [.slice none 0 0], 24, .slice 114⟩
theorem tok111 : TOK Try.prog 111 ti111 := ⟨by kernel_rfl, by kernel_rfl⟩
def ti112 : TI := ⟨3, [.int .i64 0, .int .i64 0, .slice none 0 0], 40, .struct [(0, 3), (1, 3), (2, 111)]⟩
theorem tok112 : TOK Try.prog 112 ti112 := ⟨by kernel_rfl, by kernel_rfl⟩
def ti113 : TI := ⟨3, [.int .i64 0, .int .i64 0, .slice none 0 0], 40, .struct [(0, 3), (1, 3), (2, 111)]⟩
theorem tok113 : TOK Try.prog 113 ti113 := ⟨by kernel_rfl, by kernel_rfl⟩
def ti114 : TI := ⟨5, [.int .i64 0, .int .i64 0, .int .i64 0, .int .i64 0, .int .i64 0], 40, .struct [(0, 3), (1, 3), (2, 3), (3, 3), (4, 3)]⟩
theorem tok114 : TOK Try.prog 114 ti114 := ⟨by kernel_rfl, by kernel_rfl⟩
def ti115 : TI := ⟨1, [.pointer none], 8, .plain⟩
theorem tok115 : TOK Try.prog 115 ti115 := ⟨by kernel_rfl, by kernel_rfl⟩
def ti116 : TI := ⟨1, [.nilFunc], 8, .plain⟩
theorem tok116 : TOK Try.prog 116 ti116 := ⟨by kernel_rfl, by kernel_rfl⟩
def ti117 : TI := ⟨21, [.int .i64 0, .int .i64 0, .int .i64 0, .int .i64 0, .int .i64 0, .int .i64 0, .int .i64 0, .int .i64 0, .int .i64 0, .int .i64 0, .int .i64 0, .int .i64 0, .int .i64 0, .int .i64 0, .int .i64 0, .int .i64 0, .int .i64 0, .int .i64 0, .int .i64 0, .int .i64 0, .int .i64 0], 168, .arr 21 3⟩
theorem tok117 : TOK Try.prog 117 ti117 := ⟨by kernel_rfl, by kernel_rfl⟩
def ti118 : TI := ⟨21, [.int .i64 0, .int .i64 0, .int .i64 0, .int .i64 0, .int .i64 0, .int .i64 0, .int .i64 0, .int .i64 0, .int .i64 0, .int .i64 0, .int .i64 0, .int .i64 0, .int .i64 0, .int .i64 0, .int .i64 0, .int .i64 0, .int .i64 0, .int .i64 0, .int .i64 0, .int .i64 0, .int .i64 0], 168, .arr 21 3⟩
theorem tok118 : TOK Try.prog 118 ti118 := ⟨by kernel_rfl, by kernel_rfl⟩
def ti120 : TI := ⟨1, [.nilFunc], 8, .plain⟩
theorem tok120 : TOK Try.prog 120 ti120 := ⟨by kernel_rfl, by kernel_rfl⟩
def ti121 : TI := ⟨1, [.nilFunc], 8, .plain⟩
theorem tok121 : TOK Try.prog 121 ti121 := ⟨by kernel_rfl, by kernel_rfl⟩
def ti122 : TI := ⟨1, [.nilFunc], 8, .plain⟩
theorem tok122 : TOK Try.prog 122 ti122 := ⟨by kernel_rfl, by kernel_rfl⟩
def ti123 : TI := ⟨8, [.int .i64 0, .int .i64 0, .int .i64 0, .int .i64 0, .int .i64 0, .int .i64 0, .int .i64 0, .int .i64 0], 64, .struct [(0, 3), (1, 3), (2, 55), (4, 55), (6, 3), (7, 3)]⟩
theorem tok123 : TOK Try.prog 123 ti123 := ⟨by kernel_rfl, by kernel_rfl⟩
def ti124 : TI := ⟨8, [.int .i64 0, .int .i64 0, .int .i64 0, .int .i64 0, .int .i64 0, .int .i64 0, .int .i64 0, .int .i64 0], 64, .struct [(0, 3), (1, 3), (2, 55), (4, 55), (6, 3), (7, 3)]⟩
theorem tok124 : TOK Try.prog 124 ti124 := ⟨by kernel_rfl, by kernel_rfl⟩
def ti125 : TI := ⟨1, [.nilFunc], 8, .plain⟩
theorem tok125 : TOK Try.prog 125 ti125 := ⟨by kernel_rfl, by kernel_rfl⟩
def ti126 : TI := ⟨1, [.nilFunc], 8, .plain⟩
theorem tok126 : TOK Try.prog 126 ti126 := ⟨by kernel_rfl, by kernel_rfl⟩
def ti127 : TI := ⟨1, [.nilFunc], 8, .plain⟩
theorem tok127 : TOK Try.prog 127 ti127 := ⟨by kernel_rfl, by kernel_rfl⟩
def ti128 : TI := ⟨1, [.nilFunc], 8, .plain⟩
theorem tok128 : TOK Try.prog 128 ti128 := ⟨by kernel_rfl, by kernel_rfl⟩
def ti129 : TI := ⟨1, [.nilFunc], 8, .plain⟩
theorem tok129 : TOK Try.prog 129 ti129 := ⟨by kernel_rfl, by kernel_rfl⟩
def ti130 : TI := ⟨1, [.nilFunc], 8, .plain⟩
theorem tok130 : TOK Try.prog 130 ti130 := ⟨by kernel_rfl, by kernel_rfl⟩
def ti131 : TI := ⟨1, [.nilFunc], 8, .plain⟩
theorem tok131 : TOK Try.prog 131 ti131 := ⟨by kernel_rfl, by kernel_rfl⟩
def ti132 : TI := ⟨1, [.nilFunc], 8, .plain⟩
theorem tok132 : TOK Try.prog 132 ti132 := ⟨by kernel_rfl, by kernel_rfl⟩
def ti133 : TI := ⟨8, [.int .i64 0, .int .i64 0, .int .i64 0, .int .i64 0, .int .i64 0, .int .i64 0, .int .i64 0, .int .i64 0], 64, .struct [(0, 3), (1, 3), (2, 43), (4, 43), (6, 3), (7, 3)]⟩
theorem tok133 : TOK Try.prog 133 ti133 := ⟨by kernel_rfl, by kernel_rfl⟩
def ti134 : TI := ⟨8, [.int .i64 0, .int .i64 0, .int .i64 0, .int .i64 0, .int .i64 0, .int .i64 0, .int .i64 0, .int .i64 0], 64, .struct [(0, 3), (1, 3), (2, 43), (4, 43), (6, 3), (7, 3)]⟩
theorem tok134 : TOK Try.prog 134 ti134 := ⟨by kernel_rfl, by kernel_rfl⟩
def ti135 : TI := ⟨1, [.nilFunc], 8, .plain⟩
theorem tok135 : TOK Try.prog 135 ti135 := ⟨by kernel_rfl, by kernel_rfl⟩
def ti136 : TI := ⟨1, [.nilFunc], 8, .plain⟩
theorem tok136 : TOK Try.prog 136 ti136 := ⟨by kernel_rfl, by kernel_rfl⟩
def ti137 : TI := ⟨1, [.nilFunc], 8, .plain⟩
theorem tok137 : TOK Try.prog 137 ti137 := ⟨by kernel_rfl, by kernel_rfl⟩
def ti139 : TI := ⟨1, [.nilFunc], 8, .plain⟩
theorem tok139 : TOK Try.prog 139 ti139 := ⟨by kernel_rfl, by kernel_rfl⟩
def ti141 : TI := ⟨1, [.nilFunc], 8, .plain⟩
theorem tok141 : TOK Try.prog 141 ti141 := ⟨by kernel_rfl, by kernel_rfl⟩
def ti142 : TI := ⟨1, [.slice none 0 0], 24, .slice 118⟩
theorem tok142 : TOK Try.prog 142 ti142 := ⟨by kernel_rfl, by kernel_rfl⟩
def ti143 : TI := ⟨1, [.slice none 0 0], 24, .slice 148⟩
theorem tok143 : TOK Try.prog 143 ti143 := ⟨by kernel_rfl, by kernel_rfl⟩
def ti144 : TI := ⟨1, [.slice none 0 0], 24, .slice 159⟩
theorem tok144 : TOK Try.prog 144 ti144 := ⟨by kernel_rfl, by kernel_rfl⟩
def ti145 : TI := ⟨9, [.slice none 0 0, .slice none 0 0, .int .i64 0, .int .i64 0, .int .i64 0, .slice none 0 0, .slice none 0 0, .slice none 0 0, .slice none 0 0], 168, .struct [(0, 41), (6, 142), (7, 143), (8, 144)]⟩
theorem tok145 : TOK Try.prog 145 ti145 := ⟨by kernel_rfl, by kernel_rfl⟩
def ti146 : TI := ⟨9, [.slice none 0 0, .slice none 0 0, .int .i64 0, .int .i64 0, .int .i64 0, .slice none 0 0, .slice none 0 0, .slice none 0 0, .slice none 0 0], 168, .struct [(0, 41), (6, 142), (7, 143), (8, 144)]⟩
theorem tok146 : TOK Try.prog 146 ti146 := ⟨by kernel_rfl, by kernel_rfl⟩
def ti147 : TI := ⟨1, [.nilFunc], 8, .plain⟩
theorem tok147 : TOK Try.prog 147 ti147 := ⟨by kernel_rfl, by kernel_rfl⟩
def ti148 : TI := ⟨42, [.int .i64 0, .int .i64 0, .int .i64 0, .int .i64 0, .int .i64 0, .int .i64 0, .int .i64 0, .int .i64 0, .int .i64 0, .int .i64 0, .int .i64 0, .int .i64 0, .int .i64 0, .int .i64 0, .int .i64 0, .int .i64 0, .int .i64 0, .int .i64 0, .int .i64 0, .int .i64 0, .int .i64 0, .int .i64 0, .int .i64 0, .int .i64 0, .int .i64 0, .int .i64 0, .int .i64 0, .int .i64 0, .int .i64 0, .int .i64 0, .int .i64 0, .int .i64 0, .int .i64 0, .int .i64 0, .int .i64 0, .int .i64 0, .int .i64 0, .int .i64 0, .int .i64 0, .int .i64 0, .int .i64 0, .int .i64 0], 336, .arr 2 118⟩
theorem tok148 : TOK Try.prog 148 ti148 := ⟨by kernel_rfl, by kernel_rfl⟩
def ti149 : TI := ⟨4, [.int .i64 0, .int .i64 0, .int .i64 0, .int .i64 0], 32, .arr 2 106⟩
theorem tok149 : TOK Try.prog 149 ti149 := ⟨by kernel_rfl, by kernel_rfl⟩
def ti150 : TI := ⟨1, [.nilFunc], 8, .plain⟩
theorem tok150 : TOK Try.prog 150 ti150 := ⟨by kernel_rfl, by kernel_rfl⟩
def ti151 : TI := ⟨1, [.nilFunc], 8, .plain⟩
theorem tok151 : TOK Try.prog 151 ti151 := ⟨by kernel_rfl, by kernel_rfl⟩
def ti152 : TI := ⟨1, [.nilFunc], 8, .plain⟩
theorem tok152 : TOK Try.prog 152 ti152 := ⟨by kernel_rfl, by kernel_rfl⟩
def ti153 : TI := ⟨1, [.nilFunc], 8, .plain⟩
theorem tok153 : TOK Try.prog 153 ti153 := ⟨by kernel_rfl, by kernel_rfl⟩
def ti154 : TI := ⟨1, [.nilFunc], 8, .plain⟩
theorem tok154 : TOK Try.prog 154 ti154 := ⟨by kernel_rfl, by kernel_rfl⟩
def ti155 : TI := ⟨1, [.nilFunc], 8, .plain⟩
theorem tok155 : TOK Try.prog 155 ti155 := ⟨by kernel_rfl, by kernel_rfl⟩
def ti156 : TI := ⟨1, [.nilFunc], 8, .plain⟩
theorem tok156 : TOK Try.prog 156 ti156 := ⟨by kernel_rfl, by kernel_rfl⟩
def ti157 : TI := ⟨1, [.nilFunc], 8, .plain⟩
theorem tok157 : TOK Try.prog 157 ti157 := ⟨by kernel_rfl, by kernel_rfl⟩
def ti158 : TI := ⟨1, [.nilFunc], 8, .plain⟩
theorem tok158 : TOK Try.prog 158 ti158 := ⟨by kernel_rfl, by kernel_rfl⟩
def ti159 : TI := ⟨1281, (List.replicate 1281 (.int .i64 0)), 10248, .arr 61 118⟩
theorem tok159 : TOK Try.prog 159 ti159 := ⟨by kernel_rfl, by kernel_rfl⟩
def ti161 : TI := ⟨1, [.nilFunc], 8, .plain⟩
theorem tok161 : TOK Try.prog 161 ti161 := ⟨by kernel_rfl, by kernel_rfl⟩
def ti162 : TI := ⟨1, [.nilFunc], 8, .plain⟩
theorem tok162 : TOK Try.prog 162 ti162 := ⟨by kernel_rfl, by kernel_rfl⟩
def ti163 : TI := ⟨1, [.nilFunc], 8, .plain⟩
theorem tok163 : TOK Try.prog 163 ti163 := ⟨by kernel_rfl, by kernel_rfl⟩
def ti164 : TI := ⟨1, [.nilFunc], 8, .plain⟩
theorem tok164 : TOK Try.prog 164 ti164 := ⟨by kernel_rfl, by kernel_rfl⟩
def ti165 : TI := ⟨1, [.nilFunc], 8, .plain⟩
theorem tok165 : TOK Try.prog 165 ti165 := ⟨by kernel_rfl, by kernel_rfl⟩
def ti166 : TI := ⟨1, [.nilFunc], 8, .plain⟩
theorem tok166 : TOK Try.prog 166 ti166 := ⟨by kernel_rfl, by kernel_rfl⟩
def ti167 : TI := ⟨1, [.nilFunc], 8, .plain⟩
theorem tok167 : TOK Try.prog 167 ti167 := ⟨by kernel_rfl, by kernel_rfl⟩
def ti168 : TI := ⟨1, [.nilFunc], 8, .plain⟩
theorem tok168 : TOK Try.prog 168 ti168 := ⟨by kernel_rfl, by kernel_rfl⟩
def ti169 : TI := ⟨1, [.nilFunc], 8, .plain⟩
theorem tok169 : TOK Try.prog 169 ti169 := ⟨by kernel_rfl, by kernel_rfl⟩
def ti170 : TI := ⟨1, [.nilFunc], 8, .plain⟩
theorem tok170 : TOK Try.prog 170 ti170 := ⟨by kernel_rfl, by kernel_rfl⟩
def ti171 : TI := ⟨1, [.nilFunc], 8, .plain⟩
theorem tok171 : TOK Try.prog 171 ti171 := ⟨by kernel_rfl, by kernel_rfl⟩
def ti172 : TI := ⟨1, [.nilFunc], 8, .plain⟩
theorem tok172 : TOK Try.prog 172 ti172 := ⟨by kernel_rfl, by kernel_rfl⟩
def ti173 : TI := ⟨4, [.int .i64 0, .int .i64 0, .int .i64 0, .int .i64 0], 32, .arr 4 3⟩
theorem tok173 : TOK Try.prog 173 ti173 := ⟨by kernel_rfl, by kernel_rfl⟩
def ti174 : TI := ⟨1, [.nilFunc], 8, .plain⟩
theorem tok174 : TOK Try.prog 174 ti174 := ⟨by kernel_rfl, by kernel_rfl⟩
def ti175 : TI := ⟨1, [.nilFunc], 8, .plain⟩
theorem tok175 : TOK Try.prog 175 ti175 := ⟨by kernel_rfl, by kernel_rfl⟩
def ti176 : TI := ⟨1, [.nilFunc], 8, .plain⟩
theorem tok176 : TOK Try.prog 176 ti176 := ⟨by kernel_rfl, by kernel_rfl⟩
def ti177 : TI := ⟨1, [.nilFunc], 8, .plain⟩
theorem tok177 : TOK Try.prog 177 ti177 := ⟨by kernel_rfl, by kernel_rfl⟩
def ti178 : TI := ⟨1, [.nilFunc], 8, .plain⟩
theorem tok178 : TOK Try.prog 178 ti178 := ⟨by kernel_rfl, by kernel_rfl⟩
def ti179 : TI := ⟨1, [.nilFunc], 8, .plain⟩
theorem tok179 : TOK Try.prog 179 ti179 := ⟨by kernel_rfl, by kernel_rfl⟩
def ti180 : TI := ⟨1, [.nilFunc], 8, .plain⟩
theorem tok180 : TOK Try.prog 180 ti180 := ⟨by kernel_rfl, by kernel_rfl⟩
def ti181 : TI := ⟨4, [.int .i64 0, .int .i64 0, .int .i64 0, .int .i64 0], 32, .arr 2 43⟩
theorem tok181 : TOK Try.prog 181 ti181 := ⟨by kernel_rfl, by kernel_rfl⟩
def ti182 : TI := ⟨1, [.pointer none], 8, .plain⟩
theorem tok182 : TOK Try.prog 182 ti182 := ⟨by kernel_rfl, by kernel_rfl⟩
def ti183 : TI := ⟨1, [.nilFunc], 8, .plain⟩
theorem tok183 : TOK Try.prog 183 ti183 := ⟨by kernel_rfl, by kernel_rfl⟩
def ti184 : TI := ⟨1, [.nilFunc], 8, .plain⟩
theorem tok184 : TOK Try.prog 184 ti184 := ⟨by kernel_rfl, by kernel_rfl⟩
def ti185 : TI := ⟨1, [.nilFunc], 8, .plain⟩
theorem tok185 : TOK Try.prog 185 ti185 := ⟨by kernel_rfl, by kernel_rfl⟩
def ti186 : TI := ⟨1, [.nilFunc], 8, .plain⟩
theorem tok186 : TOK Try.prog 186 ti186 := ⟨by kernel_rfl, by kernel_rfl⟩
def ti187 : TI := ⟨2, [.int .i64 0, .int .i64 0], 16, .struct [(0, 3), (1, 3)]⟩
theorem tok187 : TOK Try.prog 187 ti187 := ⟨by kernel_rfl, by kernel_rfl⟩
def ti188 : TI := ⟨2, [.int .i64 0, .int .i64 0], 16, .struct [(0, 3), (1, 3)]⟩
theorem tok188 : TOK Try.prog 188 ti188 := ⟨by kernel_rfl, by kernel_rfl⟩
def ti189 : TI := ⟨1, [.nilFunc], 8, .plain⟩
theorem tok189 : TOK Try.prog 189 ti189 := ⟨by kernel_rfl, by kernel_rfl⟩
def ti190 : TI := ⟨1, [.nilFunc], 8, .plain⟩
theorem tok190 : TOK Try.prog 190 ti190 := ⟨by kernel_rfl, by kernel_rfl⟩
def ti191 : TI := ⟨1, [.nilFunc], 8, .plain⟩
theorem tok191 : TOK Try.prog 191 ti191 := ⟨by kernel_rfl, by kernel_rfl⟩
def ti192 : TI := ⟨1, [.nilFunc], 8, .plain⟩
theorem tok192 : TOK Try.prog 192 ti192 := ⟨by kernel_rfl, by kernel_rfl⟩
def ti193 : TI := ⟨1, [.nilFunc], 8, .plain⟩
theorem tok193 : TOK Try.prog 193 ti193 := ⟨by kernel_rfl, by kernel_rfl⟩
def ti194 : TI := ⟨1, [.nilFunc], 8, .plain⟩
theorem tok194 : TOK Try.prog 194 ti194 := ⟨by kernel_rfl, by kernel_rfl⟩
def ti195 : TI := ⟨1, [.nilFunc], 8, .plain⟩
theorem tok195 : TOK Try.prog 195 ti195 := ⟨by kernel_rfl, by kernel_rfl⟩
def ti196 : TI := ⟨4, [.pointer none, .pointer none, .pointer none, .string ByteArray.empty], 40, .struct [(0, 17), (1, 17), (2, 17), (3, 9)]⟩
theorem tok196 : TOK Try.prog 196 ti196 := ⟨by kernel_rfl, by kernel_rfl⟩
def ti197 : TI := ⟨4, [.pointer none, .pointer none, .pointer none, .string ByteArray.empty], 40, .struct [(0, 17), (1, 17), (2, 17), (3, 9)]⟩
theorem tok197 : TOK Try.prog 197 ti197 := ⟨by kernel_rfl, by kernel_rfl⟩
def ti198 : TI := ⟨0, [], 0, .arr 0 16⟩
theorem tok198 : TOK Try.prog 198 ti198 := ⟨by kernel_rfl, by kernel_rfl⟩
def ti199 : TI := ⟨0, [], 0, .struct [(0, 198)]⟩
theorem tok199 : TOK Try.prog 199 ti199 := ⟨by kernel_rfl, by kernel_rfl⟩
def ti200 : TI := ⟨0, [], 0, .struct [(0, 198)]⟩
theorem tok200 : TOK Try.prog 200 ti200 := ⟨by kernel_rfl, by kernel_rfl⟩
def ti201 : TI := ⟨1, [.nilFunc], 8, .plain⟩
theorem tok201 : TOK Try.prog 201 ti201 := ⟨by kernel_rfl, by kernel_rfl⟩
def ti202 : TI := ⟨1, [.int .u32 0], 4, .int .u32⟩
theorem tok202 : TOK Try.prog 202 ti202 := ⟨by kernel_rfl, by kernel_rfl⟩
def ti203 : TI := ⟨1, [.int .u8 0], 1, .int .u8⟩
theorem tok203 : TOK Try.prog 203 ti203 := ⟨by kernel_rfl, by kernel_rfl⟩
def ti204 : TI := ⟨1, [.int .u8 0], 1, .int .u8⟩
theorem tok204 : TOK Try.prog 204 ti204 := ⟨by kernel_rfl, by kernel_rfl⟩
def ti205 : TI := ⟨1, [.nilFunc], 8, .plain⟩
theorem tok205 : TOK Try.prog 205 ti205 := ⟨by kernel_rfl, by kernel_rfl⟩
def ti206 : TI := ⟨1, [.pointer none], 8, .plain⟩
theorem tok206 : TOK Try.prog 206 ti206 := ⟨by kernel_rfl, by kernel_rfl⟩
def ti207 : TI := ⟨1, [.int .i32 0], 4, .int .i32⟩
theorem tok207 : TOK Try.prog 207 ti207 := ⟨by kernel_rfl, by kernel_rfl⟩
def ti208 : TI := ⟨1, [.int .i32 0], 4, .int .i32⟩
theorem tok208 : TOK Try.prog 208 ti208 := ⟨by kernel_rfl, by kernel_rfl⟩
def ti209 : TI := ⟨11, [.int .u64 0, .int .u64 0, .int .u32 0, .int .u8 0, .int .u8 0, .int .u8 0, .int .u8 0, .nilFunc, .pointer none, .int .i32 0, .int .i32 0], 48, .struct [(0, 12), (1, 12), (2, 202), (3, 203), (4, 5), (5, 5), (6, 204), (7, 205), (8, 206), (9, 207), (10, 208)]⟩
theorem tok209 : TOK Try.prog 209 ti209 := ⟨by kernel_rfl, by kernel_rfl⟩
def ti210 : TI := ⟨11, [.int .u64 0, .int .u64 0, .int .u32 0, .int .u8 0, .int .u8 0, .int .u8 0, .int .u8 0, .nilFunc, .pointer none, .int .i32 0, .int .i32 0], 48, .struct [(0, 12), (1, 12), (2, 202), (3, 203), (4, 5), (5, 5), (6, 204), (7, 205), (8, 206), (9, 207), (10, 208)]⟩
theorem tok210 : TOK Try.prog 210 ti210 := ⟨by kernel_rfl, by kernel_rfl⟩
def ti211 : TI := ⟨1, [.nilFunc], 8, .plain⟩
theorem tok211 : TOK Try.prog 211 ti211 := ⟨by kernel_rfl, by kernel_rfl⟩
def ti212 : TI := ⟨4, [.int .i64 0, .int .i64 0, .int .i64 0, .bool false], 32, .struct [(0, 3), (1, 3), (2, 3), (3, 4)]⟩
theorem tok212 : TOK Try.prog 212 ti212 := ⟨by kernel_rfl, by kernel_rfl⟩
def ti213 : TI := ⟨4, [.int .i64 0, .int .i64 0, .int .i64 0, .bool false], 32, .struct [(0, 3), (1, 3), (2, 3), (3, 4)]⟩
theorem tok213 : TOK Try.prog 213 ti213 := ⟨by kernel_rfl, by kernel_rfl⟩
def ti214 : TI := ⟨1, [.pointer none], 8, .plain⟩
theorem tok214 : TOK Try.prog 214 ti214 := ⟨by kernel_rfl, by kernel_rfl⟩
def ti215 : TI := ⟨1, [.slice none 0 0], 24, .slice 217⟩
theorem tok215 : TOK Try.prog 215 ti215 := ⟨by kernel_rfl, by kernel_rfl⟩
def ti216 : TI := ⟨1, [.slice none 0 0], 24, .slice 188⟩
theorem tok216 : TOK Try.prog 216 ti216 := ⟨by kernel_rfl, by kernel_rfl⟩
def ti217 : TI := ⟨4, [.int .i64 0, .int .i64 0, .int .i64 0, .bool false], 32, .struct [(0, 3), (1, 3), (2, 3), (3, 4)]⟩
theorem tok217 : TOK Try.prog 217 ti217 := ⟨by kernel_rfl, by kernel_rfl⟩
def tys : List (Nat × TI) := [(1, ti1), (2, ti2), (3, ti3), (4, ti4), (5, ti5), (6, ti6), (7, ti7), (8, ti8), (9, ti9), (10, ti10), (11, ti11), (12, ti12), (13, ti13), (14, ti14), (15, ti15), (16, ti16), (17, ti17), (18, ti18), (19, ti19), (21, ti21), (22, ti22), (23, ti23), (24, ti24), (25, ti25), (26, ti26), (27, ti27), (28, ti28), (30, ti30), (31, ti31), (32, ti32), (33, ti33), (34, ti34), (35, ti35), (36, ti36), (37, ti37), (38, ti38), (39, ti39), (40, ti40), (41, ti41), (42, ti42), (43, ti43), (44, ti44), (45, ti45), (46, ti46), (47, ti47), (48, ti48), (50, ti50), (51, ti51), (52, ti52), (53, ti53), (54, ti54), (55, ti55), (56, ti56), (57, ti57), (58, ti58), (59, ti59), (60, ti60), (61, ti61), (62, ti62), (63, ti63), (64, ti64), (65, ti65), (66, ti66), (67, ti67), (68, ti68), (69, ti69), (71, ti71), (72, ti72), (73, ti73), (74, ti74), (75, ti75), (76, ti76), (77, ti77), (78, ti78), (79, ti79), (80, ti80), (81, ti81), (82, ti82), (83, ti83), (84, ti84), (85, ti85), (86, ti86), (87, ti87), (88, ti88), (89, ti89), (90, ti90), (91, ti91), (92, ti92), (93, ti93), (94, ti94), (95, ti95), (96, ti96), (97, ti97), (99, ti99), (101, ti101), (102, ti102), (103, ti103), (105, ti105), (106, ti106), (107, ti107), (108, ti108), (109, ti109), (110, ti110), (111, ti111), (112, ti112), (113, ti113), (114, ti114), (115, ti115), (116, ti116), (117, ti117), (118, ti118), (120, ti120), (121, ti121), (122, ti122), (123, ti123), (124, ti124), (125, ti125), (126, ti126), (127, ti127), (128, ti128), (129, ti129), (130, ti130), (131, ti131), (132, ti132), (133, ti133), (134, ti134), (135, ti135), (136, ti136), (137, ti137), (139, ti139), (141, ti141), (142, ti142), (143, ti143), (144, ti144), (145, ti145), (146, ti146), (147, ti147), (148, ti148), (149, ti149), (150, ti150), (151, ti151), (152, ti152), (153, ti153), (154, ti154), (155, ti155), (156, ti156), (157, ti157), (158, ti158), (159, ti159), (161, ti161), (162, ti162), (163, ti163), (164, ti164), (165, ti165), (166, ti166), (167, ti167), (168, ti168), (169, ti169), (170, ti170), (171, ti171), (172, ti172), (173, ti173), (174, ti174), (175, ti175), (176, ti176), (177, ti177), (178, ti178), (179, ti179), (180, ti180), (181, ti181), (182, ti182), (183, ti183), (184, ti184), (185, ti185), (186, ti186), (187, ti187), (188, ti188), (189, ti189), (190, ti190), (191, ti191), (192, ti192), (193, ti193), (194, ti194), (195, ti195), (196, ti196), (197, ti197), (198, ti198), (199, ti199), (200, ti200), (201, ti201), (202, ti202), (203, ti203), (204, ti204), (205, ti205), (206, ti206), (207, ti207), (208, ti208), (209, ti209), (210, ti210), (211, ti211), (212, ti212), (213, ti213), (214, ti214), (215, ti215), (216, ti216), (217, ti217)]
theorem tys_ok : AllT Try.prog tys := ⟨tok1, tok2, tok3, tok4, tok5, tok6, tok7, tok8, tok9, tok10, tok11, tok12, tok13, tok14, tok15, tok16, tok17, tok18, tok19, tok21, tok22, tok23, tok24, tok25, tok26, tok27, tok28, tok30, tok31, tok32, tok33, tok34, tok35, tok36, tok37, tok38, tok39, tok40, tok41, tok42, tok43, tok44, tok45, tok46, tok47, tok48, tok50, tok51, tok52, tok53, tok54, tok55, tok56, tok57, tok58, tok59, tok60, tok61, tok62, tok63, tok64, tok65, tok66, tok67, tok68, tok69, tok71, tok72, tok73, tok74, tok75, tok76, tok77, tok78, tok79, tok80, tok81, tok82, tok83, tok84, tok85, tok86, tok87, tok88, tok89, tok90, tok91, tok92, tok93, tok94, tok95, tok96, tok97, tok99, tok101, tok102, tok103, tok105, tok106, tok107, tok108, tok109, tok110, tok111, tok112, tok113, tok114, tok115, tok116, tok117, tok118, tok120, tok121, tok122, tok123, tok124, tok125, tok126, tok127, tok128, tok129, tok130, tok131, tok132, tok133, tok134, tok135, tok136, tok137, tok139, tok141, tok142, tok143, tok144, tok145, tok146, tok147, tok148, tok149, tok150, tok151, tok152, tok153, tok154, tok155, tok156, tok157, tok158, tok159, tok161, tok162, tok163, tok164, tok165, tok166, tok167, tok168, tok169, tok170, tok171, tok172, tok173, tok174, tok175, tok176, tok177, tok178, tok179, tok180, tok181, tok182, tok183, tok184, tok185, tok186, tok187, tok188, tok189, tok190, tok191, tok192, tok193, tok194, tok195, tok196, tok197, tok198, tok199, tok200, tok201, tok202, tok203, tok204, tok205, tok206, tok207, tok208, tok209, tok210, tok211, tok212, tok213, tok214, tok215, tok216, tok217, trivial⟩
theorem fok3 (args : Array Value) (w : World) : (callFunc 3 args).run Try.prog w = .ok (.enter 3 args) w := callFunc_in Try.func3 (by kernel_rfl) (by kernel_rfl) args w
theorem fok4 (args : Array Value) (w : World) : (callFunc 4 args).run Try.prog w = .ok (.enter 4 args) w := callFunc_in Try.func4 (by kernel_rfl) (by kernel_rfl) args w
theorem fok5 (args : Array Value) (w : World) : (callFunc 5 args).run Try.prog w = .ok (.enter 5 args) w := callFunc_in Try.func5 (by kernel_rfl) (by kernel_rfl) args w
theorem fok6 (args : Array Value) (w : World) : (callFunc 6 args).run Try.prog w = .ok (.enter 6 args) w := callFunc_in Try.func6 (by kernel_rfl) (by kernel_rfl) args w
theorem fok7 (args : Array Value) (w : World) : (callFunc 7 args).run Try.prog w = .ok (.enter 7 args) w := callFunc_in Try.func7 (by kernel_rfl) (by kernel_rfl) args w
theorem fok8 (args : Array Value) (w : World) : (callFunc 8 args).run Try.prog w = .ok (.enter 8 args) w := callFunc_in Try.func8 (by kernel_rfl) (by kernel_rfl) args w
theorem fok9 (args : Array Value) (w : World) : (callFunc 9 args).run Try.prog w = .ok (.enter 9 args) w := callFunc_in Try.func9 (by kernel_rfl) (by kernel_rfl) args w
theorem fok10 (args : Array Value) (w : World) : (callFunc 10 args).run Try.prog w = .ok (.enter 10 args) w := callFunc_in Try.func10 (by kernel_rfl) (by kernel_rfl) args w
theorem fok11 (args : Array Value) (w : World) : (callFunc 11 args).run Try.prog w = .ok (.enter 11 args) w := callFunc_in Try.func11 (by kernel_rfl) (by kernel_rfl) args w
theorem fok12 (args : Array Value) (w : World) : (callFunc 12 args).run Try.prog w = .ok (.enter 12 args) w := callFunc_in Try.func12 (by kernel_rfl) (by kernel_rfl) args w
theorem fok13 (args : Array Value) (w : World) : (callFunc 13 args).run Try.prog w = .ok (.enter 13 args) w := callFunc_in Try.func13 (by kernel_rfl) (by kernel_rfl) args w
theorem fok14 (args : Array Value) (w : World) : (callFunc 14 args).run Try.prog w = .ok (.enter 14 args) w := callFunc_in Try.func14 (by kernel_rfl) (by kernel_rfl) args w
theorem fok15 (args : Array Value) (w : World) : (callFunc 15 args).run Try.prog w = .ok (.enter 15 args) w := callFunc_in Try.func15 (by kernel_rfl) (by kernel_rfl) args w
theorem fok16 (args : Array Value) (w : World) : (callFunc 16 args).run Try.prog w = .ok (.enter 16 args) w := callFunc_in Try.func16 (by kernel_rfl) (by kernel_rfl) args w
theorem fok17 (args : Array Value) (w : World) : (callFunc 17 args).run Try.prog w = .ok (.enter 17 args) w := callFunc_in Try.func17 (by kernel_rfl) (by kernel_rfl) args w
theorem fok18 (args : Array Value) (w : World) : (callFunc 18 args).run Try.prog w = .ok (.enter 18 args) w := callFunc_in Try.func18 (by kernel_rfl) (by kernel_rfl) args w
theorem fok19 (args : Array Value) (w : World) : (callFunc 19 args).run Try.prog w = .ok (.enter 19 args) w := callFunc_in Try.func19 (by kernel_rfl) (by kernel_rfl) args w
theorem fok20 (args : Array Value) (w : World) : (callFunc 20 args).run Try.prog w = .ok (.enter 20 args) w := callFunc_in Try.func20 (by kernel_rfl) (by kernel_rfl) args w
theorem fok21 (args : Array Value) (w : World) : (callFunc 21 args).run Try.prog w = .ok (.enter 21 args) w := callFunc_in Try.func21 (by kernel_rfl) (by kernel_rfl) args w
theorem fok22 (args : Array Value) (w : World) : (callFunc 22 args).run Try.prog w = .ok (.enter 22 args) w := callFunc_in Try.func22 (by kernel_rfl) (by kernel_rfl) args w
theorem fok23 (args : Array Value) (w : World) : (callFunc 23 args).run Try.prog w = .ok (.enter 23 args) w := callFunc_in Try.func23 (by kernel_rfl) (by kernel_rfl) args w
theorem fok24 (args : Array Value) (w : World) : (callFunc 24 args).run Try.prog w = .ok (.enter 24 args) w := callFunc_in Try.func24 (by kernel_rfl) (by kernel_rfl) args w
theorem fok25 (args : Array Value) (w : World) : (callFunc 25 args).run Try.prog w = .ok (.enter 25 args) w := callFunc_in Try.func25 (by kernel_rfl) (by kernel_rfl) args w
theorem fok26 (args : Array Value) (w : World) : (callFunc 26 args).run Try.prog w = .ok (.enter 26 args) w := callFunc_in Try.func26 (by kernel_rfl) (by kernel_rfl) args w
theorem fok27 (args : Array Value) (w : World) : (callFunc 27 args).run Try.prog w = .ok (.enter 27 args) w := callFunc_in Try.func27 (by kernel_rfl) (by kernel_rfl) args w
theorem fok28 (args : Array Value) (w : World) : (callFunc 28 args).run Try.prog w = .ok (.enter 28 args) w := callFunc_in Try.func28 (by kernel_rfl) (by kernel_rfl) args w
theorem fok29 (args : Array Value) (w : World) : (callFunc 29 args).run Try.prog w = .ok (.enter 29 args) w := callFunc_in Try.func29 (by kernel_rfl) (by kernel_rfl) args w
theorem fok30 (args : Array Value) (w : World) : (callFunc 30 args).run Try.prog w = .ok (.enter 30 args) w := callFunc_in Try.func30 (by kernel_rfl) (by kernel_rfl) args w
theorem fok31 (args : Array Value) (w : World) : (callFunc 31 args).run Try.prog w = .ok (.enter 31 args) w := callFunc_in Try.func31 (by kernel_rfl) (by kernel_rfl) args w
theorem fok32 (args : Array Value) (w : World) : (callFunc 32 args).run Try.prog w = .ok (.enter 32 args) w := callFunc_in Try.func32 (by kernel_rfl) (by kernel_rfl) args w
theorem fok33 (args : Array Value) (w : World) : (callFunc 33 args).run Try.prog w = .ok (.enter 33 args) w := callFunc_in Try.func33 (by kernel_rfl) (by kernel_rfl) args w
theorem fok34 (args : Array Value) (w : World) : (callFunc 34 args).run Try.prog w = .ok (.enter 34 args) w := callFunc_in Try.func34 (by kernel_rfl) (by kernel_rfl) args w
theorem fok35 (args : Array Value) (w : World) : (callFunc 35 args).run Try.prog w = .ok (.enter 35 args) w := callFunc_in Try.func35 (by kernel_rfl) (by kernel_rfl) args w
theorem fok36 (args : Array Value) (w : World) : (callFunc 36 args).run Try.prog w = .ok (.enter 36 args) w := callFunc_in Try.func36 (by kernel_rfl) (by kernel_rfl) args w
theorem fok37 (args : Array Value) (w : World) : (callFunc 37 args).run Try.prog w = .ok (.enter 37 args) w := callFunc_in Try.func37 (by kernel_rfl) (by kernel_rfl) args w
theorem fok38 (args : Array Value) (w : World) : (callFunc 38 args).run Try.prog w = .ok (.enter 38 args) w := callFunc_in Try.func38 (by kernel_rfl) (by kernel_rfl) args w
theorem fok39 (args : Array Value) (w : World) : (callFunc 39 args).run Try.prog w = .ok (.enter 39 args) w := callFunc_in Try.func39 (by kernel_rfl) (by kernel_rfl) args w
theorem fok40 (args : Array Value) (w : World) : (callFunc 40 args).run Try.prog w = .ok (.enter 40 args) w := callFunc_in Try.func40 (by kernel_rfl) (by kernel_rfl) args w
theorem fok41 (args : Array Value) (w : World) : (callFunc 41 args).run Try.prog w = .ok (.enter 41 args) w := callFunc_in Try.func41 (by kernel_rfl) (by kernel_rfl) args w
theorem fok42 (args : Array Value) (w : World) : (callFunc 42 args).run Try.prog w = .ok (.enter 42 args) w := callFunc_in Try.func42 (by kernel_rfl) (by kernel_rfl) args w
theorem fok43 (args : Array Value) (w : World) : (callFunc 43 args).run Try.prog w = .ok (.enter 43 args) w := callFunc_in Try.func43 (by kernel_rfl) (by kernel_rfl) args w
theorem fok44 (args : Array Value) (w : World) : (callFunc 44 args).run Try.prog w = .ok (.enter 44 args) w := callFunc_in Try.func44 (by kernel_rfl) (by kernel_rfl) args w
theorem fok45 (args : Array Value) (w : World) : (callFunc 45 args).run Try.prog w = .ok (.enter 45 args) w := callFunc_in Try.func45 (by kernel_rfl) (by kernel_rfl) args w
theorem fok46 (args : Array Value) (w : World) : (callFunc 46 args).run Try.prog w = .ok (.enter 46 args) w := callFunc_in Try.func46 (by kernel_rfl) (by kernel_rfl) args w
theorem fok47 (args : Array Value) (w : World) : (callFunc 47 args).run Try.prog w = .ok (.enter 47 args) w := callFunc_in Try.func47 (by kernel_rfl) (by kernel_rfl) args w
theorem fok48 (args : Array Value) (w : World) : (callFunc 48 args).run Try.prog w = .ok (.enter 48 args) w := callFunc_in Try.func48 (by kernel_rfl) (by kernel_rfl) args w
theorem fok49 (args : Array Value) (w : World) : (callFunc 49 args).run Try.prog w = .ok (.enter 49 args) w := callFunc_in Try.func49 (by kernel_rfl) (by kernel_rfl) args w
theorem fok50 (args : Array Value) (w : World) : (callFunc 50 args).run Try.prog w = .ok (.enter 50 args) w := callFunc_in Try.func50 (by kernel_rfl) (by kernel_rfl) args w
theorem fok51 (args : Array Value) (w : World) : (callFunc 51 args).run Try.prog w = .ok (.enter 51 args) w := callFunc_in Try.func51 (by kernel_rfl) (by kernel_rfl) args w
theorem fok52 (args : Array Value) (w : World) : (callFunc 52 args).run Try.prog w = .ok (.enter 52 args) w := callFunc_in Try.func52 (by kernel_rfl) (by kernel_rfl) args w
theorem fok53 (args : Array Value) (w : World) : (callFunc 53 args).run Try.prog w = .ok (.enter 53 args) w := callFunc_in Try.func53 (by kernel_rfl) (by kernel_rfl) args w
theorem fok54 (args : Array Value) (w : World) : (callFunc 54 args).run Try.prog w = .ok (.enter 54 args) w := callFunc_in Try.func54 (by kernel_rfl) (by kernel_rfl) args w
theorem fok55 (args : Array Value) (w : World) : (callFunc 55 args).run Try.prog w = .ok (.enter 55 args) w := callFunc_in Try.func55 (by kernel_rfl) (by kernel_rfl) args w
theorem fok56 (args : Array Value) (w : World) : (callFunc 56 args).run Try.prog w = .ok (.enter 56 args) w := callFunc_in Try.func56 (by kernel_rfl) (by kernel_rfl) args w
theorem fok57 (args : Array Value) (w : World) : (callFunc 57 args).run Try.prog w = .ok (.enter 57 args) w := callFunc_in Try.func57 (by kernel_rfl) (by kernel_rfl) args w
theorem fok58 (args : Array Value) (w : World) : (callFunc 58 args).run Try.prog w = .ok (.enter 58 args) w := callFunc_in Try.func58 (by kernel_rfl) (by kernel_rfl) args w
theorem fok59 (args : Array Value) (w : World) : (callFunc 59 args).run Try.prog w = .ok (.enter 59 args) w := callFunc_in Try.func59 (by kernel_rfl) (by kernel_rfl) args w
theorem fok60 (args : Array Value) (w : World) : (callFunc 60 args).run Try.prog w = .ok (.enter 60 args) w := callFunc_in Try.func60 (by kernel_rfl) (by kernel_rfl) args w
theorem fok61 (args : Array Value) (w : World) : (callFunc 61 args).run Try.prog w = .ok (.enter 61 args) w := callFunc_in Try.func61 (by kernel_rfl) (by kernel_rfl) args w
theorem fok62 (args : Array Value) (w : World) : (callFunc 62 args).run Try.prog w = .ok (.enter 62 args) w := callFunc_in Try.func62 (by kernel_rfl) (by kernel_rfl) args w
theorem fok63 (args : Array Value) (w : World) : (callFunc 63 args).run Try.prog w = .ok (.enter 63 args) w := callFunc_in Try.func63 (by kernel_rfl) (by kernel_rfl) args w
theorem fok64 (args : Array Value) (w : World) : (callFunc 64 args).run Try.prog w = .ok (.enter 64 args) w := callFunc_in Try.func64 (by kernel_rfl) (by kernel_rfl) args w
theorem fok65 (args : Array Value) (w : World) : (callFunc 65 args).run Try.prog w = .ok (.enter 65 args) w := callFunc_in Try.func65 (by kernel_rfl) (by kernel_rfl) args w
theorem fok66 (args : Array Value) (w : World) : (callFunc 66 args).run Try.prog w = .ok (.enter 66 args) w := callFunc_in Try.func66 (by kernel_rfl) (by kernel_rfl) args w
theorem fok67 (args : Array Value) (w : World) : (callFunc 67 args).run Try.prog w = .ok (.enter 67 args) w := callFunc_in Try.func67 (by kernel_rfl) (by kernel_rfl) args w
theorem fok68 (args : Array Value) (w : World) : (callFunc 68 args).run Try.prog w = .ok (.enter 68 args) w := callFunc_in Try.func68 (by kernel_rfl) (by kernel_rfl) args w
theorem fok69 (args : Array Value) (w : World) : (callFunc 69 args).run Try.prog w = .ok (.enter 69 args) w := callFunc_in Try.func69 (by kernel_rfl) (by kernel_rfl) args w
theorem fok70 (args : Array Value) (w : World) : (callFunc 70 args).run Try.prog w = .ok (.enter 70 args) w := callFunc_in Try.func70 (by kernel_rfl) (by kernel_rfl) args w
theorem fok71 (args : Array Value) (w : World) : (callFunc 71 args).run Try.prog w = .ok (.enter 71 args) w := callFunc_in Try.func71 (by kernel_rfl) (by kernel_rfl) args w
theorem fok72 (args : Array Value) (w : World) : (callFunc 72 args).run Try.prog w = .ok (.enter 72 args) w := callFunc_in Try.func72 (by kernel_rfl) (by kernel_rfl) args w
theorem fok73 (args : Array Value) (w : World) : (callFunc 73 args).run Try.prog w = .ok (.enter 73 args) w := callFunc_in Try.func73 (by kernel_rfl) (by kernel_rfl) args w
theorem fok74 (args : Array Value) (w : World) : (callFunc 74 args).run Try.prog w = .ok (.enter 74 args) w := callFunc_in Try.func74 (by kernel_rfl) (by kernel_rfl) args w
theorem fok75 (args : Array Value) (w : World) : (callFunc 75 args).run Try.prog w = .ok (.enter 75 args) w := callFunc_in Try.func75 (by kernel_rfl) (by kernel_rfl) args w
theorem fok76 (args : Array Value) (w : World) : (callFunc 76 args).run Try.prog w = .ok (.enter 76 args) w := callFunc_in Try.func76 (by kernel_rfl) (by kernel_rfl) args w
theorem fok77 (args : Array Value) (w : World) : (callFunc 77 args).run Try.prog w = .ok (.enter 77 args) w := callFunc_in Try.func77 (by kernel_rfl) (by kernel_rfl) args w
theorem fok78 (args : Array Value) (w : World) : (callFunc 78 args).run Try.prog w = .ok (.enter 78 args) w := callFunc_in Try.func78 (by kernel_rfl) (by kernel_rfl) args w
theorem fok79 (args : Array Value) (w : World) : (callFunc 79 args).run Try.prog w = .ok (.enter 79 args) w := callFunc_in Try.func79 (by kernel_rfl) (by kernel_rfl) args w
theorem fok80 (args : Array Value) (w : World) : (callFunc 80 args).run Try.prog w = .ok (.enter 80 args) w := callFunc_in Try.func80 (by kernel_rfl) (by kernel_rfl) args w
theorem fok81 (args : Array Value) (w : World) : (callFunc 81 args).run Try.prog w = .ok (.enter 81 args) w := callFunc_in Try.func81 (by kernel_rfl) (by kernel_rfl) args w
theorem fok82 (args : Array Value) (w : World) : (callFunc 82 args).run Try.prog w = .ok (.enter 82 args) w := callFunc_in Try.func82 (by kernel_rfl) (by kernel_rfl) args w
theorem fok83 (args : Array Value) (w : World) : (callFunc 83 args).run Try.prog w = .ok (.enter 83 args) w := callFunc_in Try.func83 (by kernel_rfl) (by kernel_rfl) args w
theorem fok84 (args : Array Value) (w : World) : (callFunc 84 args).run Try.prog w = .ok (.enter 84 args) w := callFunc_in Try.func84 (by kernel_rfl) (by kernel_rfl) args w
theorem fok85 (args : Array Value) (w : World) : (callFunc 85 args).run Try.prog w = .ok (.enter 85 args) w := callFunc_in Try.func85 (by kernel_rfl) (by kernel_rfl) args w
theorem fok86 (args : Array Value) (w : World) : (callFunc 86 args).run Try.prog w = .ok (.enter 86 args) w := callFunc_in Try.func86 (by kernel_rfl) (by kernel_rfl) args w
theorem fok87 (args : Array Value) (w : World) : (callFunc 87 args).run Try.prog w = .ok (.enter 87 args) w := callFunc_in Try.func87 (by kernel_rfl) (by kernel_rfl) args w
theorem fok88 (args : Array Value) (w : World) : (callFunc 88 args).run Try.prog w = .ok (.enter 88 args) w := callFunc_in Try.func88 (by kernel_rfl) (by kernel_rfl) args w
theorem fok89 (args : Array Value) (w : World) : (callFunc 89 args).run Try.prog w = .ok (.enter 89 args) w := callFunc_in Try.func89 (by kernel_rfl) (by kernel_rfl) args w
theorem fok90 (args : Array Value) (w : World) : (callFunc 90 args).run Try.prog w = .ok (.enter 90 args) w := callFunc_in Try.func90 (by kernel_rfl) (by kernel_rfl) args w
theorem fok91 (args : Array Value) (w : World) : (callFunc 91 args).run Try.prog w = .ok (.enter 91 args) w := callFunc_in Try.func91 (by kernel_rfl) (by kernel_rfl) args w
theorem fok92 (args : Array Value) (w : World) : (callFunc 92 args).run Try.prog w = .ok (.enter 92 args) w := callFunc_in Try.func92 (by kernel_rfl) (by kernel_rfl) args w
theorem fok93 (args : Array Value) (w : World) : (callFunc 93 args).run Try.prog w = .ok (.enter 93 args) w := callFunc_in Try.func93 (by kernel_rfl) (by kernel_rfl) args w
theorem fok94 (args : Array Value) (w : World) : (callFunc 94 args).run Try.prog w = .ok (.enter 94 args) w := callFunc_in Try.func94 (by kernel_rfl) (by kernel_rfl) args w
theorem fok95 (args : Array Value) (w : World) : (callFunc 95 args).run Try.prog w = .ok (.enter 95 args) w := callFunc_in Try.func95 (by kernel_rfl) (by kernel_rfl) args w
theorem fok96 (args : Array Value) (w : World) : (callFunc 96 args).run Try.prog w = .ok (.enter 96 args) w := callFunc_in Try.func96 (by kernel_rfl) (by kernel_rfl) args w
theorem fok97 (args : Array Value) (w : World) : (callFunc 97 args).run Try.prog w = .ok (.enter 97 args) w := callFunc_in Try.func97 (by kernel_rfl) (by kernel_rfl) args w
theorem fok98 (args : Array Value) (w : World) : (callFunc 98 args).run Try.prog w = .ok (.enter 98 args) w := callFunc_in Try.func98 (by kernel_rfl) (by kernel_rfl) args w
theorem fok99 (args : Array Value) (w : World) : (callFunc 99 args).run Try.prog w = .ok (.enter 99 args) w := callFunc_in Try.func99 (by kernel_rfl) (by kernel_rfl) args w
theorem fok100 (args : Array Value) (w : World) : (callFunc 100 args).run Try.prog w = .ok (.enter 100 args) w := callFunc_in Try.func100 (by kernel_rfl) (by kernel_rfl) args w
theorem fok101 (args : Array Value) (w : World) : (callFunc 101 args).run Try.prog w = .ok (.enter 101 args) w := callFunc_in Try.func101 (by kernel_rfl) (by kernel_rfl) args w
theorem fok102 (args : Array Value) (w : World) : (callFunc 102 args).run Try.prog w = .ok (.enter 102 args) w := callFunc_in Try.func102 (by kernel_rfl) (by kernel_rfl) args w
theorem fok103 (args : Array Value) (w : World) : (callFunc 103 args).run Try.prog w = .ok (.enter 103 args) w := callFunc_in Try.func103 (by kernel_rfl) (by kernel_rfl) args w
theorem fok104 (args : Array Value) (w : World) : (callFunc 104 args).run Try.prog w = .ok (.enter 104 args) w := callFunc_in Try.func104 (by kernel_rfl) (by kernel_rfl) args w
theorem fok105 (args : Array Value) (w : World) : (callFunc 105 args).run Try.prog w = .ok (.enter 105 args) w := callFunc_in Try.func105 (by kernel_rfl) (by kernel_rfl) args w
theorem fok106 (args : Array Value) (w : World) : (callFunc 106 args).run Try.prog w = .ok (.enter 106 args) w := callFunc_in Try.func106 (by kernel_rfl) (by kernel_rfl) args w
theorem fok107 (args : Array Value) (w : World) : (callFunc 107 args).run Try.prog w = .ok (.enter 107 args) w := callFunc_in Try.func107 (by kernel_rfl) (by kernel_rfl) args w
theorem fok108 (args : Array Value) (w : World) : (callFunc 108 args).run Try.prog w = .ok (.enter 108 args) w := callFunc_in Try.func108 (by kernel_rfl) (by kernel_rfl) args w
theorem fok109 (args : Array Value) (w : World) : (callFunc 109 args).run Try.prog w = .ok (.enter 109 args) w := callFunc_in Try.func109 (by kernel_rfl) (by kernel_rfl) args w
theorem fok110 (args : Array Value) (w : World) : (callFunc 110 args).run Try.prog w = .ok (.enter 110 args) w := callFunc_in Try.func110 (by kernel_rfl) (by kernel_rfl) args w
def fns : List Nat := [3, 4, 5, 6, 7, 8, 9, 10, 11, 12, 13, 14, 15, 16, 17, 18, 19, 20, 21, 22, 23, 24, 25, 26, 27, 28, 29, 30, 31, 32, 33, 34, 35, 36, 37, 38, 39, 40, 41, 42, 43, 44, 45, 46, 47, 48, 49, 50, 51, 52, 53, 54, 55, 56, 57, 58, 59, 60, 61, 62, 63, 64, 65, 66, 67, 68, 69, 70, 71, 72, 73, 74, 75, 76, 77, 78, 79, 80, 81, 82, 83, 84, 85, 86, 87, 88, 89, 90, 91, 92, 93, 94, 95, 96, 97, 98, 99, 100, 101, 102, 103, 104, 105, 106, 107, 108, 109, 110]
theorem fns_ok : AllF Try.prog fns := ⟨fok3, fok4, fok5, fok6, fok7, fok8, fok9, fok10, fok11, fok12, fok13, fok14, fok15, fok16, fok17, fok18, fok19, fok20, fok21, fok22, fok23, fok24, fok25, fok26, fok27, fok28, fok29, fok30, fok31, fok32, fok33, fok34, fok35, fok36, fok37, fok38, fok39, fok40, fok41, fok42, fok43, fok44, fok45, fok46, fok47, fok48, fok49, fok50, fok51, fok52, fok53, fok54, fok55, fok56, fok57, fok58, fok59, fok60, fok61, fok62, fok63, fok64, fok65, fok66, fok67, fok68, fok69, fok70, fok71, fok72, fok73, fok74, fok75, fok76, fok77, fok78, fok79, fok80, fok81, fok82, fok83, fok84, fok85, fok86, fok87, fok88, fok89, fok90, fok91, fok92, fok93, fok94, fok95, fok96, fok97, fok98, fok99, fok100, fok101, fok102, fok103, fok104, fok105, fok106, fok107, fok108, fok109, fok110, trivial⟩
def env : Env Try.prog := Env.of tys tys_ok fns fns_ok
theorem mixed : Try.prog.follows .mixedOrders = true := by kernel_rfl
noncomputable def body3 : Code := Try.f3.body.getD .skip
theorem has3 : Try.f3.body = some body3 := by kernel_rfl
noncomputable def body4 : Code := Try.f4.body.getD .skip
theorem has4 : Try.f4.body = some body4 := by kernel_rfl
noncomputable def body5 : Code := Try.f5.body.getD .skip
theorem has5 : Try.f5.body = some body5 := by kernel_rfl
noncomputable def body6 : Code := Try.f6.body.getD .skip
theorem has6 : Try.f6.body = some body6 := by kernel_rfl
noncomputable def body7 : Code := Try.f7.body.getD .skip
theorem has7 : Try.f7.body = some body7 := by kernel_rfl
noncomputable def body8 : Code := Try.f8.body.getD .skip
theorem has8 : Try.f8.body = some body8 := by kernel_rfl
noncomputable def body9 : Code := Try.f9.body.getD .skip
theorem has9 : Try.f9.body = some body9 := by kernel_rfl
noncomputable def body10 : Code := Try.f10.body.getD .skip
theorem has10 : Try.f10.body = some body10 := by kernel_rfl
noncomputable def body11 : Code := Try.f11.body.getD .skip
theorem has11 : Try.f11.body = some body11 := by kernel_rfl
noncomputable def body12 : Code := Try.f12.body.getD .skip
theorem has12 : Try.f12.body = some body12 := by kernel_rfl
noncomputable def body13 : Code := Try.f13.body.getD .skip
theorem has13 : Try.f13.body = some body13 := by kernel_rfl
noncomputable def body14 : Code := Try.f14.body.getD .skip
theorem has14 : Try.f14.body = some body14 := by kernel_rfl
noncomputable def body15 : Code := Try.f15.body.getD .skip
theorem has15 : Try.f15.body = some body15 := by kernel_rfl
noncomputable def body16 : Code := Try.f16.body.getD .skip
theorem has16 : Try.f16.body = some body16 := by kernel_rfl
noncomputable def body17 : Code := Try.f17.body.getD .skip
theorem has17 : Try.f17.body = some body17 := by kernel_rfl
noncomputable def body18 : Code := Try.f18.body.getD .skip
theorem has18 : Try.f18.body = some body18 := by kernel_rfl
noncomputable def body19 : Code := Try.f19.body.getD .skip
theorem has19 : Try.f19.body = some body19 := by kernel_rfl
noncomputable def body20 : Code := Try.f20.body.getD .skip
theorem has20 : Try.f20.body = some body20 := by kernel_rfl
noncomputable def body21 : Code := Try.f21.body.getD .skip
theorem has21 : Try.f21.body = some body21 := by kernel_rfl
noncomputable def body22 : Code := Try.f22.body.getD .skip
theorem has22 : Try.f22.body = some body22 := by kernel_rfl
noncomputable def body23 : Code := Try.f23.body.getD .skip
theorem has23 : Try.f23.body = some body23 := by kernel_rfl
noncomputable def body24 : Code := Try.f24.body.getD .skip
theorem has24 : Try.f24.body = some body24 := by kernel_rfl
noncomputable def body25 : Code := Try.f25.body.getD .skip
theorem has25 : Try.f25.body = some body25 := by kernel_rfl
noncomputable def body26 : Code := Try.f26.body.getD .skip
theorem has26 : Try.f26.body = some body26 := by kernel_rfl
noncomputable def body27 : Code := Try.f27.body.getD .skip
theorem has27 : Try.f27.body = some body27 := by kernel_rfl
noncomputable def body28 : Code := Try.f28.body.getD .skip
theorem has28 : Try.f28.body = some body28 := by kernel_rfl
noncomputable def body29 : Code := Try.f29.body.getD .skip
theorem has29 : Try.f29.body = some body29 := by kernel_rfl
noncomputable def body30 : Code := Try.f30.body.getD .skip
theorem has30 : Try.f30.body = some body30 := by kernel_rfl
noncomputable def body31 : Code := Try.f31.body.getD .skip
theorem has31 : Try.f31.body = some body31 := by kernel_rfl
noncomputable def body32 : Code := Try.f32.body.getD .skip
theorem has32 : Try.f32.body = some body32 := by kernel_rfl
noncomputable def body33 : Code := Try.f33.body.getD .skip
theorem has33 : Try.f33.body = some body33 := by kernel_rfl
noncomputable def body34 : Code := Try.f34.body.getD .skip
theorem has34 : Try.f34.body = some body34 := by kernel_rfl
noncomputable def body35 : Code := Try.f35.body.getD .skip
theorem has35 : Try.f35.body = some body35 := by kernel_rfl
noncomputable def body36 : Code := Try.f36.body.getD .skip
theorem has36 : Try.f36.body = some body36 := by kernel_rfl
noncomputable def body37 : Code := Try.f37.body.getD .skip
theorem has37 : Try.f37.body = some body37 := by kernel_rfl
noncomputable def body38 : Code := Try.f38.body.getD .skip
theorem has38 : Try.f38.body = some body38 := by kernel_rfl
noncomputable def body39 : Code := Try.f39.body.getD .skip
theorem has39 : Try.f39.body = some body39 := by kernel_rfl
noncomputable def body40 : Code := Try.f40.body.getD .skip
theorem has40 : Try.f40.body = some body40 := by kernel_rfl
noncomputable def body41 : Code := Try.f41.body.getD .skip
theorem has41 : Try.f41.body = some body41 := by kernel_rfl
noncomputable def body42 : Code := Try.f42.body.getD .skip
theorem has42 : Try.f42.body = some body42 := by kernel_rfl
noncomputable def body43 : Code := Try.f43.body.getD .skip
theorem has43 : Try.f43.body = some body43 := by kernel_rfl
noncomputable def body44 : Code := Try.f44.body.getD .skip
theorem has44 : Try.f44.body = some body44 := by kernel_rfl
noncomputable def body45 : Code := Try.f45.body.getD .skip
theorem has45 : Try.f45.body = some body45 := by kernel_rfl
noncomputable def body46 : Code := Try.f46.body.getD .skip
theorem has46 : Try.f46.body = some body46 := by kernel_rfl
noncomputable def body47 : Code := Try.f47.body.getD .skip
theorem has47 : Try.f47.body = some body47 := by kernel_rfl
noncomputable def body48 : Code := Try.f48.body.getD .skip
theorem has48 : Try.f48.body = some body48 := by kernel_rfl
noncomputable def body49 : Code := Try.f49.body.getD .skip
theorem has49 : Try.f49.body = some body49 := by kernel_rfl
noncomputable def body50 : Code := Try.f50.body.getD .skip
theorem has50 : Try.f50.body = some body50 := by kernel_rfl
noncomputable def body51 : Code := Try.f51.body.getD .skip
theorem has51 : Try.f51.body = some body51 := by kernel_rfl
noncomputable def body52 : Code := Try.f52.body.getD .skip
theorem has52 : Try.f52.body = some body52 := by kernel_rfl
noncomputable def body53 : Code := Try.f53.body.getD .skip
theorem has53 : Try.f53.body = some body53 := by kernel_rfl
noncomputable def body54 : Code := Try.f54.body.getD .skip
theorem has54 : Try.f54.body = some body54 := by kernel_rfl
noncomputable def body55 : Code := Try.f55.body.getD .skip
theorem has55 : Try.f55.body = some body55 := by kernel_rfl
noncomputable def body56 : Code := Try.f56.body.getD .skip
theorem has56 : Try.f56.body = some body56 := by kernel_rfl
noncomputable def body57 : Code := Try.f57.body.getD .skip
theorem has57 : Try.f57.body = some body57 := by kernel_rfl
noncomputable def body58 : Code := Try.f58.body.getD .skip
theorem has58 : Try.f58.body = some body58 := by kernel_rfl
noncomputable def body59 : Code := Try.f59.body.getD .skip
theorem has59 : Try.f59.body = some body59 := by kernel_rfl
noncomputable def body60 : Code := Try.f60.body.getD .skip
theorem has60 : Try.f60.body = some body60 := by kernel_rfl
noncomputable def body61 : Code := Try.f61.body.getD .skip
theorem has61 : Try.f61.body = some body61 := by kernel_rfl
noncomputable def body62 : Code := Try.f62.body.getD .skip
theorem has62 : Try.f62.body = some body62 := by kernel_rfl
noncomputable def body63 : Code := Try.f63.body.getD .skip
theorem has63 : Try.f63.body = some body63 := by kernel_rfl
noncomputable def body64 : Code := Try.f64.body.getD .skip
theorem has64 : Try.f64.body = some body64 := by kernel_rfl
noncomputable def body65 : Code := Try.f65.body.getD .skip
theorem has65 : Try.f65.body = some body65 := by kernel_rfl
noncomputable def body66 : Code := Try.f66.body.getD .skip
theorem has66 : Try.f66.body = some body66 := by kernel_rfl
noncomputable def body67 : Code := Try.f67.body.getD .skip
theorem has67 : Try.f67.body = some body67 := by kernel_rfl
noncomputable def body68 : Code := Try.f68.body.getD .skip
theorem has68 : Try.f68.body = some body68 := by kernel_rfl
noncomputable def body69 : Code := Try.f69.body.getD .skip
theorem has69 : Try.f69.body = some body69 := by kernel_rfl
noncomputable def body70 : Code := Try.f70.body.getD .skip
theorem has70 : Try.f70.body = some body70 := by kernel_rfl
noncomputable def body71 : Code := Try.f71.body.getD .skip
theorem has71 : Try.f71.body = some body71 := by kernel_rfl
noncomputable def body72 : Code := Try.f72.body.getD .skip
theorem has72 : Try.f72.body = some body72 := by kernel_rfl
noncomputable def body73 : Code := Try.f73.body.getD .skip
theorem has73 : Try.f73.body = some body73 := by kernel_rfl
noncomputable def body74 : Code := Try.f74.body.getD .skip
theorem has74 : Try.f74.body = some body74 := by kernel_rfl
noncomputable def body75 : Code := Try.f75.body.getD .skip
theorem has75 : Try.f75.body = some body75 := by kernel_rfl
noncomputable def body76 : Code := Try.f76.body.getD .skip
theorem has76 : Try.f76.body = some body76 := by kernel_rfl
noncomputable def body77 : Code := Try.f77.body.getD .skip
theorem has77 : Try.f77.body = some body77 := by kernel_rfl
noncomputable def body78 : Code := Try.f78.body.getD .skip
theorem has78 : Try.f78.body = some body78 := by kernel_rfl
noncomputable def body79 : Code := Try.f79.body.getD .skip
theorem has79 : Try.f79.body = some body79 := by kernel_rfl
noncomputable def body80 : Code := Try.f80.body.getD .skip
theorem has80 : Try.f80.body = some body80 := by kernel_rfl
noncomputable def body81 : Code := Try.f81.body.getD .skip
theorem has81 : Try.f81.body = some body81 := by kernel_rfl
noncomputable def body82 : Code := Try.f82.body.getD .skip
theorem has82 : Try.f82.body = some body82 := by kernel_rfl
noncomputable def body83 : Code := Try.f83.body.getD .skip
theorem has83 : Try.f83.body = some body83 := by kernel_rfl
noncomputable def body84 : Code := Try.f84.body.getD .skip
theorem has84 : Try.f84.body = some body84 := by kernel_rfl
noncomputable def body85 : Code := Try.f85.body.getD .skip
theorem has85 : Try.f85.body = some body85 := by kernel_rfl
noncomputable def body86 : Code := Try.f86.body.getD .skip
theorem has86 : Try.f86.body = some body86 := by kernel_rfl
noncomputable def body87 : Code := Try.f87.body.getD .skip
theorem has87 : Try.f87.body = some body87 := by kernel_rfl
noncomputable def body88 : Code := Try.f88.body.getD .skip
theorem has88 : Try.f88.body = some body88 := by kernel_rfl
noncomputable def body89 : Code := Try.f89.body.getD .skip
theorem has89 : Try.f89.body = some body89 := by kernel_rfl
noncomputable def body90 : Code := Try.f90.body.getD .skip
theorem has90 : Try.f90.body = some body90 := by kernel_rfl
noncomputable def body91 : Code := Try.f91.body.getD .skip
theorem has91 : Try.f91.body = some body91 := by kernel_rfl
noncomputable def body92 : Code := Try.f92.body.getD .skip
theorem has92 : Try.f92.body = some body92 := by kernel_rfl
noncomputable def body93 : Code := Try.f93.body.getD .skip
theorem has93 : Try.f93.body = some body93 := by kernel_rfl
noncomputable def body94 : Code := Try.f94.body.getD .skip
theorem has94 : Try.f94.body = some body94 := by kernel_rfl
noncomputable def body95 : Code := Try.f95.body.getD .skip
theorem has95 : Try.f95.body = some body95 := by kernel_rfl
noncomputable def body96 : Code := Try.f96.body.getD .skip
theorem has96 : Try.f96.body = some body96 := by kernel_rfl
noncomputable def body97 : Code := Try.f97.body.getD .skip
theorem has97 : Try.f97.body = some body97 := by kernel_rfl
noncomputable def body98 : Code := Try.f98.body.getD .skip
theorem has98 : Try.f98.body = some body98 := by kernel_rfl
noncomputable def body99 : Code := Try.f99.body.getD .skip
theorem has99 : Try.f99.body = some body99 := by kernel_rfl
noncomputable def body100 : Code := Try.f100.body.getD .skip
theorem has100 : Try.f100.body = some body100 := by kernel_rfl
noncomputable def body101 : Code := Try.f101.body.getD .skip
theorem has101 : Try.f101.body = some body101 := by kernel_rfl
noncomputable def body102 : Code := Try.f102.body.getD .skip
theorem has102 : Try.f102.body = some body102 := by kernel_rfl
noncomputable def body103 : Code := Try.f103.body.getD .skip
theorem has103 : Try.f103.body = some body103 := by kernel_rfl
noncomputable def body104 : Code := Try.f104.body.getD .skip
theorem has104 : Try.f104.body = some body104 := by kernel_rfl
noncomputable def body105 : Code := Try.f105.body.getD .skip
theorem has105 : Try.f105.body = some body105 := by kernel_rfl
noncomputable def body106 : Code := Try.f106.body.getD .skip
theorem has106 : Try.f106.body = some body106 := by kernel_rfl
noncomputable def body107 : Code := Try.f107.body.getD .skip
theorem has107 : Try.f107.body = some body107 := by kernel_rfl
noncomputable def body108 : Code := Try.f108.body.getD .skip
theorem has108 : Try.f108.body = some body108 := by kernel_rfl
noncomputable def body109 : Code := Try.f109.body.getD .skip
theorem has109 : Try.f109.body = some body109 := by kernel_rfl
noncomputable def body110 : Code := Try.f110.body.getD .skip
theorem has110 : Try.f110.body = some body110 := by kernel_rfl
end Go.Proofs.Ytfbokllafdnglaa
