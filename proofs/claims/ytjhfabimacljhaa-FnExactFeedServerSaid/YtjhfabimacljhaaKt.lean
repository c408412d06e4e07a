/- The types that the functions of this claim use, and that the program's table says so. -/
import Derived.Test.YtjhfabimacljhaaRows
import Derived.Test.YtjhfabimacljhaaKs
namespace Go.Proofs.Ytjhfabimacljhaa.K
open Go Go.RowKit
set_option linter.unusedVariables false
set_option linter.unusedSimpArgs false

def infB (P : Program) (n : TypeId) (i : TInfo) : Bool :=
  match P.info? n with
  | some x => x.size == i.size && x.bytes == i.bytes && (match x.zero with | some z => zerosOk i.zero z.cells.toList | none => i.zero.isEmpty)
  | none => false
theorem infB_ok {P : Program} {n : TypeId} {i : TInfo} (h : infB P n i = true) : ∃ x, P.info? n = some x ∧ x.size = i.size ∧ x.bytes = i.bytes ∧ (i.zero ≠ [] → ∃ z, x.zero = some z ∧ zerosOk i.zero z.cells.toList = true) := by
  unfold infB at h
  split at h
  · rename_i x hx
    simp only [Bool.and_eq_true, beq_iff_eq] at h
    refine ⟨x, hx, h.1.1, h.1.2, fun hz => ?_⟩
    split at h
    · rename_i z hz'
      exact ⟨z, hz', h.2⟩
    · exact absurd (by simpa using h.2) hz
  · cases h

def ty2 : TInfo := ⟨.int .i64, 1, 8, [.int .i64 0]⟩
def ty3 : TInfo := ⟨.int .i64, 1, 8, [.int .i64 0]⟩
def ty4 : TInfo := ⟨.bool, 1, 1, [.bool false]⟩
def ty5 : TInfo := ⟨.int .u8, 1, 1, [.int .u8 0]⟩
def ty9 : TInfo := ⟨.str, 1, 16, [.str []]⟩
def ty22 : TInfo := ⟨.slice 49, 1, 24, [.nil 13]⟩
def ty23 : TInfo := ⟨.slice 78, 1, 24, [.nil 9]⟩
def ty24 : TInfo := ⟨.slice 110, 1, 24, [.nil 2]⟩
def ty26 : TInfo := ⟨.struct [(0, 22), (1, 23), (2, 24), (3, 3)], 4, 80, [.nil 13, .nil 9, .nil 2, .int .i64 0]⟩
def ty31 : TInfo := ⟨.slice 161, 1, 24, [.nil 7]⟩
def ty32 : TInfo := ⟨.slice 3, 1, 24, [.nil 1]⟩
def ty34 : TInfo := ⟨.struct [(0, 3), (1, 3), (2, 31), (3, 32)], 4, 64, [.int .i64 0, .int .i64 0, .nil 7, .nil 1]⟩
def ty36 : TInfo := ⟨.struct [(0, 34), (4, 9), (5, 3)], 6, 88, [.int .i64 0, .int .i64 0, .nil 7, .nil 1, .str [], .int .i64 0]⟩
def ty38 : TInfo := ⟨.struct [(0, 9), (1, 9), (2, 4), (3, 4), (4, 3), (5, 32)], 6, 72, [.str [], .str [], .bool false, .bool false, .int .i64 0, .nil 1]⟩
def ty40 : TInfo := ⟨.struct [(0, 36), (6, 38), (12, 4)], 13, 168, [.int .i64 0, .int .i64 0, .nil 7, .nil 1, .str [], .int .i64 0, .str [], .str [], .bool false, .bool false, .int .i64 0, .nil 1, .bool false]⟩
def ty42 : TInfo := ⟨.slice 131, 1, 24, [.nil 7]⟩
def ty44 : TInfo := ⟨.struct [(0, 3), (1, 3), (2, 42), (3, 32)], 4, 64, [.int .i64 0, .int .i64 0, .nil 7, .nil 1]⟩
def ty46 : TInfo := ⟨.struct [(0, 44), (4, 9), (5, 3)], 6, 88, [.int .i64 0, .int .i64 0, .nil 7, .nil 1, .str [], .int .i64 0]⟩
def ty47 : TInfo := ⟨.struct [(0, 9), (1, 9), (2, 4), (3, 4), (4, 3), (5, 32)], 6, 72, [.str [], .str [], .bool false, .bool false, .int .i64 0, .nil 1]⟩
def ty49 : TInfo := ⟨.struct [(0, 46), (6, 47), (12, 4)], 13, 168, [.int .i64 0, .int .i64 0, .nil 7, .nil 1, .str [], .int .i64 0, .str [], .str [], .bool false, .bool false, .int .i64 0, .nil 1, .bool false]⟩
def ty56 : TInfo := ⟨.struct [(0, 26), (4, 32)], 5, 104, [.nil 13, .nil 9, .nil 2, .int .i64 0, .nil 1]⟩
def ty63 : TInfo := ⟨.slice 40, 1, 24, [.nil 13]⟩
def ty64 : TInfo := ⟨.slice 123, 1, 24, [.nil 9]⟩
def ty65 : TInfo := ⟨.slice 125, 1, 24, [.nil 2]⟩
def ty67 : TInfo := ⟨.struct [(0, 63), (1, 64), (2, 65), (3, 3)], 4, 80, [.nil 13, .nil 9, .nil 2, .int .i64 0]⟩
def ty74 : TInfo := ⟨.slice 9, 1, 24, [.nil 1]⟩
def ty76 : TInfo := ⟨.struct [(0, 3), (1, 74), (2, 3), (3, 3)], 4, 48, [.int .i64 0, .nil 1, .int .i64 0, .int .i64 0]⟩
def ty78 : TInfo := ⟨.struct [(0, 3), (1, 76), (5, 3), (6, 74), (7, 4), (8, 4)], 9, 96, [.int .i64 0, .int .i64 0, .nil 1, .int .i64 0, .int .i64 0, .int .i64 0, .nil 1, .bool false, .bool false]⟩
def ty110 : TInfo := ⟨.struct [(0, 3), (1, 9)], 2, 24, [.int .i64 0, .str []]⟩
def ty121 : TInfo := ⟨.struct [(0, 3), (1, 74), (2, 3), (3, 3)], 4, 48, [.int .i64 0, .nil 1, .int .i64 0, .int .i64 0]⟩
def ty123 : TInfo := ⟨.struct [(0, 3), (1, 121), (5, 3), (6, 74), (7, 4), (8, 4)], 9, 96, [.int .i64 0, .int .i64 0, .nil 1, .int .i64 0, .int .i64 0, .int .i64 0, .nil 1, .bool false, .bool false]⟩
def ty125 : TInfo := ⟨.struct [(0, 3), (1, 9)], 2, 24, [.int .i64 0, .str []]⟩
def ty128 : TInfo := ⟨.struct [(0, 3), (1, 3)], 2, 16, [.int .i64 0, .int .i64 0]⟩
def ty129 : TInfo := ⟨.slice 149, 1, 24, [.nil 4]⟩
def ty131 : TInfo := ⟨.struct [(0, 3), (1, 9), (2, 128), (4, 3), (5, 129), (6, 32)], 7, 96, [.int .i64 0, .str [], .int .i64 0, .int .i64 0, .int .i64 0, .nil 4, .nil 1]⟩
def ty140 : TInfo := ⟨.slice 5, 1, 24, [.nil 1]⟩
def ty147 : TInfo := ⟨.slice 166, 1, 24, [.nil 3]⟩
def ty149 : TInfo := ⟨.struct [(0, 3), (1, 3), (2, 147), (3, 9)], 4, 56, [.int .i64 0, .int .i64 0, .nil 3, .str []]⟩
def ty158 : TInfo := ⟨.struct [(0, 3), (1, 3)], 2, 16, [.int .i64 0, .int .i64 0]⟩
def ty159 : TInfo := ⟨.slice 179, 1, 24, [.nil 4]⟩
def ty161 : TInfo := ⟨.struct [(0, 3), (1, 9), (2, 158), (4, 3), (5, 159), (6, 32)], 7, 96, [.int .i64 0, .str [], .int .i64 0, .int .i64 0, .int .i64 0, .nil 4, .nil 1]⟩
def ty166 : TInfo := ⟨.struct [(0, 3), (1, 128)], 3, 24, [.int .i64 0, .int .i64 0, .int .i64 0]⟩
def ty169 : TInfo := ⟨.int .u64, 1, 8, [.int .u64 0]⟩
def ty177 : TInfo := ⟨.slice 186, 1, 24, [.nil 3]⟩
def ty179 : TInfo := ⟨.struct [(0, 3), (1, 3), (2, 177), (3, 9)], 4, 56, [.int .i64 0, .int .i64 0, .nil 3, .str []]⟩
def ty186 : TInfo := ⟨.struct [(0, 3), (1, 158)], 3, 24, [.int .i64 0, .int .i64 0, .int .i64 0]⟩
def tab : Tab := fun t => match t with
  | 2 => some ty2
  | 3 => some ty3
  | 4 => some ty4
  | 5 => some ty5
  | 9 => some ty9
  | 22 => some ty22
  | 23 => some ty23
  | 24 => some ty24
  | 26 => some ty26
  | 31 => some ty31
  | 32 => some ty32
  | 34 => some ty34
  | 36 => some ty36
  | 38 => some ty38
  | 40 => some ty40
  | 42 => some ty42
  | 44 => some ty44
  | 46 => some ty46
  | 47 => some ty47
  | 49 => some ty49
  | 56 => some ty56
  | 63 => some ty63
  | 64 => some ty64
  | 65 => some ty65
  | 67 => some ty67
  | 74 => some ty74
  | 76 => some ty76
  | 78 => some ty78
  | 110 => some ty110
  | 121 => some ty121
  | 123 => some ty123
  | 125 => some ty125
  | 128 => some ty128
  | 129 => some ty129
  | 131 => some ty131
  | 140 => some ty140
  | 147 => some ty147
  | 149 => some ty149
  | 158 => some ty158
  | 159 => some ty159
  | 161 => some ty161
  | 166 => some ty166
  | 169 => some ty169
  | 177 => some ty177
  | 179 => some ty179
  | 186 => some ty186
  | _ => none
theorem ok2 : TOk Try.prog 2 ty2 := ⟨⟨_, Try.underlying2, rfl, by intro _; rfl⟩, infB_ok (by kernel_rfl)⟩
theorem ok3 : TOk Try.prog 3 ty3 := ⟨⟨_, Try.underlying3, rfl, by intro _; rfl⟩, infB_ok (by kernel_rfl)⟩
theorem ok4 : TOk Try.prog 4 ty4 := ⟨⟨_, Try.underlying4, rfl, by intro _; rfl⟩, infB_ok (by kernel_rfl)⟩
theorem ok5 : TOk Try.prog 5 ty5 := ⟨⟨_, Try.underlying5, rfl, by intro _; rfl⟩, infB_ok (by kernel_rfl)⟩
theorem ok9 : TOk Try.prog 9 ty9 := ⟨⟨_, Try.underlying9, rfl, by intro _; rfl⟩, infB_ok (by kernel_rfl)⟩
theorem ok22 : TOk Try.prog 22 ty22 := ⟨⟨_, Try.underlying22, rfl, by intro _; rfl⟩, infB_ok (by kernel_rfl)⟩
theorem ok23 : TOk Try.prog 23 ty23 := ⟨⟨_, Try.underlying23, rfl, by intro _; rfl⟩, infB_ok (by kernel_rfl)⟩
theorem ok24 : TOk Try.prog 24 ty24 := ⟨⟨_, Try.underlying24, rfl, by intro _; rfl⟩, infB_ok (by kernel_rfl)⟩
theorem ok26 : TOk Try.prog 26 ty26 := ⟨⟨_, Try.underlying26, rfl, by simp [ty26, Kind.isAgg]⟩, infB_ok (by kernel_rfl)⟩
theorem ok31 : TOk Try.prog 31 ty31 := ⟨⟨_, Try.underlying31, rfl, by intro _; rfl⟩, infB_ok (by kernel_rfl)⟩
theorem ok32 : TOk Try.prog 32 ty32 := ⟨⟨_, Try.underlying32, rfl, by intro _; rfl⟩, infB_ok (by kernel_rfl)⟩
theorem ok34 : TOk Try.prog 34 ty34 := ⟨⟨_, Try.underlying34, rfl, by simp [ty34, Kind.isAgg]⟩, infB_ok (by kernel_rfl)⟩
theorem ok36 : TOk Try.prog 36 ty36 := ⟨⟨_, Try.underlying36, rfl, by simp [ty36, Kind.isAgg]⟩, infB_ok (by kernel_rfl)⟩
theorem ok38 : TOk Try.prog 38 ty38 := ⟨⟨_, Try.underlying38, rfl, by simp [ty38, Kind.isAgg]⟩, infB_ok (by kernel_rfl)⟩
theorem ok40 : TOk Try.prog 40 ty40 := ⟨⟨_, Try.underlying40, rfl, by simp [ty40, Kind.isAgg]⟩, infB_ok (by kernel_rfl)⟩
theorem ok42 : TOk Try.prog 42 ty42 := ⟨⟨_, Try.underlying42, rfl, by intro _; rfl⟩, infB_ok (by kernel_rfl)⟩
theorem ok44 : TOk Try.prog 44 ty44 := ⟨⟨_, Try.underlying44, rfl, by simp [ty44, Kind.isAgg]⟩, infB_ok (by kernel_rfl)⟩
theorem ok46 : TOk Try.prog 46 ty46 := ⟨⟨_, Try.underlying46, rfl, by simp [ty46, Kind.isAgg]⟩, infB_ok (by kernel_rfl)⟩
theorem ok47 : TOk Try.prog 47 ty47 := ⟨⟨_, Try.underlying47, rfl, by simp [ty47, Kind.isAgg]⟩, infB_ok (by kernel_rfl)⟩
theorem ok49 : TOk Try.prog 49 ty49 := ⟨⟨_, Try.underlying49, rfl, by simp [ty49, Kind.isAgg]⟩, infB_ok (by kernel_rfl)⟩
theorem ok56 : TOk Try.prog 56 ty56 := ⟨⟨_, Try.underlying56, rfl, by simp [ty56, Kind.isAgg]⟩, infB_ok (by kernel_rfl)⟩
theorem ok63 : TOk Try.prog 63 ty63 := ⟨⟨_, Try.underlying63, rfl, by intro _; rfl⟩, infB_ok (by kernel_rfl)⟩
theorem ok64 : TOk Try.prog 64 ty64 := ⟨⟨_, Try.underlying64, rfl, by intro _; rfl⟩, infB_ok (by kernel_rfl)⟩
theorem ok65 : TOk Try.prog 65 ty65 := ⟨⟨_, Try.underlying65, rfl, by intro _; rfl⟩, infB_ok (by kernel_rfl)⟩
theorem ok67 : TOk Try.prog 67 ty67 := ⟨⟨_, Try.underlying67, rfl, by simp [ty67, Kind.isAgg]⟩, infB_ok (by kernel_rfl)⟩
theorem ok74 : TOk Try.prog 74 ty74 := ⟨⟨_, Try.underlying74, rfl, by intro _; rfl⟩, infB_ok (by kernel_rfl)⟩
theorem ok76 : TOk Try.prog 76 ty76 := ⟨⟨_, Try.underlying76, rfl, by simp [ty76, Kind.isAgg]⟩, infB_ok (by kernel_rfl)⟩
theorem ok78 : TOk Try.prog 78 ty78 := ⟨⟨_, Try.underlying78, rfl, by simp [ty78, Kind.isAgg]⟩, infB_ok (by kernel_rfl)⟩
theorem ok110 : TOk Try.prog 110 ty110 := ⟨⟨_, Try.underlying110, rfl, by simp [ty110, Kind.isAgg]⟩, infB_ok (by kernel_rfl)⟩
theorem ok121 : TOk Try.prog 121 ty121 := ⟨⟨_, Try.underlying121, rfl, by simp [ty121, Kind.isAgg]⟩, infB_ok (by kernel_rfl)⟩
theorem ok123 : TOk Try.prog 123 ty123 := ⟨⟨_, Try.underlying123, rfl, by simp [ty123, Kind.isAgg]⟩, infB_ok (by kernel_rfl)⟩
theorem ok125 : TOk Try.prog 125 ty125 := ⟨⟨_, Try.underlying125, rfl, by simp [ty125, Kind.isAgg]⟩, infB_ok (by kernel_rfl)⟩
theorem ok128 : TOk Try.prog 128 ty128 := ⟨⟨_, Try.underlying128, rfl, by simp [ty128, Kind.isAgg]⟩, infB_ok (by kernel_rfl)⟩
theorem ok129 : TOk Try.prog 129 ty129 := ⟨⟨_, Try.underlying129, rfl, by intro _; rfl⟩, infB_ok (by kernel_rfl)⟩
theorem ok131 : TOk Try.prog 131 ty131 := ⟨⟨_, Try.underlying131, rfl, by simp [ty131, Kind.isAgg]⟩, infB_ok (by kernel_rfl)⟩
theorem ok140 : TOk Try.prog 140 ty140 := ⟨⟨_, Try.underlying140, rfl, by intro _; rfl⟩, infB_ok (by kernel_rfl)⟩
theorem ok147 : TOk Try.prog 147 ty147 := ⟨⟨_, Try.underlying147, rfl, by intro _; rfl⟩, infB_ok (by kernel_rfl)⟩
theorem ok149 : TOk Try.prog 149 ty149 := ⟨⟨_, Try.underlying149, rfl, by simp [ty149, Kind.isAgg]⟩, infB_ok (by kernel_rfl)⟩
theorem ok158 : TOk Try.prog 158 ty158 := ⟨⟨_, Try.underlying158, rfl, by simp [ty158, Kind.isAgg]⟩, infB_ok (by kernel_rfl)⟩
theorem ok159 : TOk Try.prog 159 ty159 := ⟨⟨_, Try.underlying159, rfl, by intro _; rfl⟩, infB_ok (by kernel_rfl)⟩
theorem ok161 : TOk Try.prog 161 ty161 := ⟨⟨_, Try.underlying161, rfl, by simp [ty161, Kind.isAgg]⟩, infB_ok (by kernel_rfl)⟩
theorem ok166 : TOk Try.prog 166 ty166 := ⟨⟨_, Try.underlying166, rfl, by simp [ty166, Kind.isAgg]⟩, infB_ok (by kernel_rfl)⟩
theorem ok169 : TOk Try.prog 169 ty169 := ⟨⟨_, Try.underlying169, rfl, by intro _; rfl⟩, infB_ok (by kernel_rfl)⟩
theorem ok177 : TOk Try.prog 177 ty177 := ⟨⟨_, Try.underlying177, rfl, by intro _; rfl⟩, infB_ok (by kernel_rfl)⟩
theorem ok179 : TOk Try.prog 179 ty179 := ⟨⟨_, Try.underlying179, rfl, by simp [ty179, Kind.isAgg]⟩, infB_ok (by kernel_rfl)⟩
theorem ok186 : TOk Try.prog 186 ty186 := ⟨⟨_, Try.underlying186, rfl, by simp [ty186, Kind.isAgg]⟩, infB_ok (by kernel_rfl)⟩
theorem tab_ok : TabOk Try.prog tab := by
  intro t i h
  unfold tab at h
  split at h
  · obtain rfl := Option.some.inj h; exact ok2
  · obtain rfl := Option.some.inj h; exact ok3
  · obtain rfl := Option.some.inj h; exact ok4
  · obtain rfl := Option.some.inj h; exact ok5
  · obtain rfl := Option.some.inj h; exact ok9
  · obtain rfl := Option.some.inj h; exact ok22
  · obtain rfl := Option.some.inj h; exact ok23
  · obtain rfl := Option.some.inj h; exact ok24
  · obtain rfl := Option.some.inj h; exact ok26
  · obtain rfl := Option.some.inj h; exact ok31
  · obtain rfl := Option.some.inj h; exact ok32
  · obtain rfl := Option.some.inj h; exact ok34
  · obtain rfl := Option.some.inj h; exact ok36
  · obtain rfl := Option.some.inj h; exact ok38
  · obtain rfl := Option.some.inj h; exact ok40
  · obtain rfl := Option.some.inj h; exact ok42
  · obtain rfl := Option.some.inj h; exact ok44
  · obtain rfl := Option.some.inj h; exact ok46
  · obtain rfl := Option.some.inj h; exact ok47
  · obtain rfl := Option.some.inj h; exact ok49
  · obtain rfl := Option.some.inj h; exact ok56
  · obtain rfl := Option.some.inj h; exact ok63
  · obtain rfl := Option.some.inj h; exact ok64
  · obtain rfl := Option.some.inj h; exact ok65
  · obtain rfl := Option.some.inj h; exact ok67
  · obtain rfl := Option.some.inj h; exact ok74
  · obtain rfl := Option.some.inj h; exact ok76
  · obtain rfl := Option.some.inj h; exact ok78
  · obtain rfl := Option.some.inj h; exact ok110
  · obtain rfl := Option.some.inj h; exact ok121
  · obtain rfl := Option.some.inj h; exact ok123
  · obtain rfl := Option.some.inj h; exact ok125
  · obtain rfl := Option.some.inj h; exact ok128
  · obtain rfl := Option.some.inj h; exact ok129
  · obtain rfl := Option.some.inj h; exact ok131
  · obtain rfl := Option.some.inj h; exact ok140
  · obtain rfl := Option.some.inj h; exact ok147
  · obtain rfl := Option.some.inj h; exact ok149
  · obtain rfl := Option.some.inj h; exact ok158
  · obtain rfl := Option.some.inj h; exact ok159
  · obtain rfl := Option.some.inj h; exact ok161
  · obtain rfl := Option.some.inj h; exact ok166
  · obtain rfl := Option.some.inj h; exact ok169
  · obtain rfl := Option.some.inj h; exact ok177
  · obtain rfl := Option.some.inj h; exact ok179
  · obtain rfl := Option.some.inj h; exact ok186
  · cases h
/-- The table, in one. -/
theorem ktab : tab 2 = some ⟨.int .i64, 1, 8, [.int .i64 0]⟩ ∧ tab 3 = some ⟨.int .i64, 1, 8, [.int .i64 0]⟩ ∧ tab 4 = some ⟨.bool, 1, 1, [.bool false]⟩ ∧ tab 5 = some ⟨.int .u8, 1, 1, [.int .u8 0]⟩ ∧ tab 9 = some ⟨.str, 1, 16, [.str []]⟩ ∧ tab 22 = some ⟨.slice 49, 1, 24, [.nil 13]⟩ ∧ tab 23 = some ⟨.slice 78, 1, 24, [.nil 9]⟩ ∧ tab 24 = some ⟨.slice 110, 1, 24, [.nil 2]⟩ ∧ tab 26 = some ⟨.struct [(0, 22), (1, 23), (2, 24), (3, 3)], 4, 80, [.nil 13, .nil 9, .nil 2, .int .i64 0]⟩ ∧ tab 31 = some ⟨.slice 161, 1, 24, [.nil 7]⟩ ∧ tab 32 = some ⟨.slice 3, 1, 24, [.nil 1]⟩ ∧ tab 34 = some ⟨.struct [(0, 3), (1, 3), (2, 31), (3, 32)], 4, 64, [.int .i64 0, .int .i64 0, .nil 7, .nil 1]⟩ ∧ tab 36 = some ⟨.struct [(0, 34), (4, 9), (5, 3)], 6, 88, [.int .i64 0, .int .i64 0, .nil 7, .nil 1, .str [], .int .i64 0]⟩ ∧ tab 38 = some ⟨.struct [(0, 9), (1, 9), (2, 4), (3, 4), (4, 3), (5, 32)], 6, 72, [.str [], .str [], .bool false, .bool false, .int .i64 0, .nil 1]⟩ ∧ tab 40 = some ⟨.struct [(0, 36), (6, 38), (12, 4)], 13, 168, [.int .i64 0, .int .i64 0, .nil 7, .nil 1, .str [], .int .i64 0, .str [], .str [], .bool false, .bool false, .int .i64 0, .nil 1, .bool false]⟩ ∧ tab 42 = some ⟨.slice 131, 1, 24, [.nil 7]⟩ ∧ tab 44 = some ⟨.struct [(0, 3), (1, 3), (2, 42), (3, 32)], 4, 64, [.int .i64 0, .int .i64 0, .nil 7, .nil 1]⟩ ∧ tab 46 = some ⟨.struct [(0, 44), (4, 9), (5, 3)], 6, 88, [.int .i64 0, .int .i64 0, .nil 7, .nil 1, .str [], .int .i64 0]⟩ ∧ tab 47 = some ⟨.struct [(0, 9), (1, 9), (2, 4), (3, 4), (4, 3), (5, 32)], 6, 72, [.str [], .str [], .bool false, .bool false, .int .i64 0, .nil 1]⟩ ∧ tab 49 = some ⟨.struct [(0, 46), (6, 47), (12, 4)], 13, 168, [.int .i64 0, .int .i64 0, .nil 7, .nil 1, .str [], .int .i64 0, .str [], .str [], .bool false, .bool false, .int .i64 0, .nil 1, .bool false]⟩ ∧ tab 56 = some ⟨.struct [(0, 26), (4, 32)], 5, 104, [.nil 13, .nil 9, .nil 2, .int .i64 0, .nil 1]⟩ ∧ tab 63 = some ⟨.slice 40, 1, 24, [.nil 13]⟩ ∧ tab 64 = some ⟨.slice 123, 1, 24, [.nil 9]⟩ ∧ tab 65 = some ⟨.slice 125, 1, 24, [.nil 2]⟩ ∧ tab 67 = some ⟨.struct [(0, 63), (1, 64), (2, 65), (3, 3)], 4, 80, [.nil 13, .nil 9, .nil 2, .int .i64 0]⟩ ∧ tab 74 = some ⟨.slice 9, 1, 24, [.nil 1]⟩ ∧ tab 76 = some ⟨.struct [(0, 3), (1, 74), (2, 3), (3, 3)], 4, 48, [.int .i64 0, .nil 1, .int .i64 0, .int .i64 0]⟩ ∧ tab 78 = some ⟨.struct [(0, 3), (1, 76), (5, 3), (6, 74), (7, 4), (8, 4)], 9, 96, [.int .i64 0, .int .i64 0, .nil 1, .int .i64 0, .int .i64 0, .int .i64 0, .nil 1, .bool false, .bool false]⟩ ∧ tab 110 = some ⟨.struct [(0, 3), (1, 9)], 2, 24, [.int .i64 0, .str []]⟩ ∧ tab 121 = some ⟨.struct [(0, 3), (1, 74), (2, 3), (3, 3)], 4, 48, [.int .i64 0, .nil 1, .int .i64 0, .int .i64 0]⟩ ∧ tab 123 = some ⟨.struct [(0, 3), (1, 121), (5, 3), (6, 74), (7, 4), (8, 4)], 9, 96, [.int .i64 0, .int .i64 0, .nil 1, .int .i64 0, .int .i64 0, .int .i64 0, .nil 1, .bool false, .bool false]⟩ ∧ tab 125 = some ⟨.struct [(0, 3), (1, 9)], 2, 24, [.int .i64 0, .str []]⟩ ∧ tab 128 = some ⟨.struct [(0, 3), (1, 3)], 2, 16, [.int .i64 0, .int .i64 0]⟩ ∧ tab 129 = some ⟨.slice 149, 1, 24, [.nil 4]⟩ ∧ tab 131 = some ⟨.struct [(0, 3), (1, 9), (2, 128), (4, 3), (5, 129), (6, 32)], 7, 96, [.int .i64 0, .str [], .int .i64 0, .int .i64 0, .int .i64 0, .nil 4, .nil 1]⟩ ∧ tab 140 = some ⟨.slice 5, 1, 24, [.nil 1]⟩ ∧ tab 147 = some ⟨.slice 166, 1, 24, [.nil 3]⟩ ∧ tab 149 = some ⟨.struct [(0, 3), (1, 3), (2, 147), (3, 9)], 4, 56, [.int .i64 0, .int .i64 0, .nil 3, .str []]⟩ ∧ tab 158 = some ⟨.struct [(0, 3), (1, 3)], 2, 16, [.int .i64 0, .int .i64 0]⟩ ∧ tab 159 = some ⟨.slice 179, 1, 24, [.nil 4]⟩ ∧ tab 161 = some ⟨.struct [(0, 3), (1, 9), (2, 158), (4, 3), (5, 159), (6, 32)], 7, 96, [.int .i64 0, .str [], .int .i64 0, .int .i64 0, .int .i64 0, .nil 4, .nil 1]⟩ ∧ tab 166 = some ⟨.struct [(0, 3), (1, 128)], 3, 24, [.int .i64 0, .int .i64 0, .int .i64 0]⟩ ∧ tab 169 = some ⟨.int .u64, 1, 8, [.int .u64 0]⟩ ∧ tab 177 = some ⟨.slice 186, 1, 24, [.nil 3]⟩ ∧ tab 179 = some ⟨.struct [(0, 3), (1, 3), (2, 177), (3, 9)], 4, 56, [.int .i64 0, .int .i64 0, .nil 3, .str []]⟩ ∧ tab 186 = some ⟨.struct [(0, 3), (1, 158)], 3, 24, [.int .i64 0, .int .i64 0, .int .i64 0]⟩ := ⟨rfl, rfl, rfl, rfl, rfl, rfl, rfl, rfl, rfl, rfl, rfl, rfl, rfl, rfl, rfl, rfl, rfl, rfl, rfl, rfl, rfl, rfl, rfl, rfl, rfl, rfl, rfl, rfl, rfl, rfl, rfl, rfl, rfl, rfl, rfl, rfl, rfl, rfl, rfl, rfl, rfl, rfl, rfl, rfl, rfl, rfl⟩
theorem cl14 : Callable Try.prog 14 := ⟨_, Try.func14, rfl, by kernel_rfl⟩
theorem cl16 : Callable Try.prog 16 := ⟨_, Try.func16, rfl, by kernel_rfl⟩
theorem cl18 : Callable Try.prog 18 := ⟨_, Try.func18, rfl, by kernel_rfl⟩
theorem cl19 : Callable Try.prog 19 := ⟨_, Try.func19, rfl, by kernel_rfl⟩
theorem cl20 : Callable Try.prog 20 := ⟨_, Try.func20, rfl, by kernel_rfl⟩
theorem cl26 : Callable Try.prog 26 := ⟨_, Try.func26, rfl, by kernel_rfl⟩
theorem cl27 : Callable Try.prog 27 := ⟨_, Try.func27, rfl, by kernel_rfl⟩
theorem cl45 : Callable Try.prog 45 := ⟨_, Try.func45, rfl, by kernel_rfl⟩
theorem cl46 : Callable Try.prog 46 := ⟨_, Try.func46, rfl, by kernel_rfl⟩
theorem cl47 : Callable Try.prog 47 := ⟨_, Try.func47, rfl, by kernel_rfl⟩
theorem cl48 : Callable Try.prog 48 := ⟨_, Try.func48, rfl, by kernel_rfl⟩
theorem cl49 : Callable Try.prog 49 := ⟨_, Try.func49, rfl, by kernel_rfl⟩
theorem cl50 : Callable Try.prog 50 := ⟨_, Try.func50, rfl, by kernel_rfl⟩
theorem cl51 : Callable Try.prog 51 := ⟨_, Try.func51, rfl, by kernel_rfl⟩
theorem cl52 : Callable Try.prog 52 := ⟨_, Try.func52, rfl, by kernel_rfl⟩
theorem cl53 : Callable Try.prog 53 := ⟨_, Try.func53, rfl, by kernel_rfl⟩
theorem cl54 : Callable Try.prog 54 := ⟨_, Try.func54, rfl, by kernel_rfl⟩
theorem cl55 : Callable Try.prog 55 := ⟨_, Try.func55, rfl, by kernel_rfl⟩
theorem cl56 : Callable Try.prog 56 := ⟨_, Try.func56, rfl, by kernel_rfl⟩
theorem cl57 : Callable Try.prog 57 := ⟨_, Try.func57, rfl, by kernel_rfl⟩
theorem cl58 : Callable Try.prog 58 := ⟨_, Try.func58, rfl, by kernel_rfl⟩
theorem cl59 : Callable Try.prog 59 := ⟨_, Try.func59, rfl, by kernel_rfl⟩
theorem cl60 : Callable Try.prog 60 := ⟨_, Try.func60, rfl, by kernel_rfl⟩
theorem cl61 : Callable Try.prog 61 := ⟨_, Try.func61, rfl, by kernel_rfl⟩
theorem cl78 : Callable Try.prog 78 := ⟨_, Try.func78, rfl, by kernel_rfl⟩
theorem cl79 : Callable Try.prog 79 := ⟨_, Try.func79, rfl, by kernel_rfl⟩
theorem cl81 : Callable Try.prog 81 := ⟨_, Try.func81, rfl, by kernel_rfl⟩
theorem cl83 : Callable Try.prog 83 := ⟨_, Try.func83, rfl, by kernel_rfl⟩
theorem cl84 : Callable Try.prog 84 := ⟨_, Try.func84, rfl, by kernel_rfl⟩
theorem cl85 : Callable Try.prog 85 := ⟨_, Try.func85, rfl, by kernel_rfl⟩
theorem cl86 : Callable Try.prog 86 := ⟨_, Try.func86, rfl, by kernel_rfl⟩
theorem cl87 : Callable Try.prog 87 := ⟨_, Try.func87, rfl, by kernel_rfl⟩
theorem cl88 : Callable Try.prog 88 := ⟨_, Try.func88, rfl, by kernel_rfl⟩
theorem cl89 : Callable Try.prog 89 := ⟨_, Try.func89, rfl, by kernel_rfl⟩
theorem cl90 : Callable Try.prog 90 := ⟨_, Try.func90, rfl, by kernel_rfl⟩
theorem cl91 : Callable Try.prog 91 := ⟨_, Try.func91, rfl, by kernel_rfl⟩
theorem cl92 : Callable Try.prog 92 := ⟨_, Try.func92, rfl, by kernel_rfl⟩
theorem cl93 : Callable Try.prog 93 := ⟨_, Try.func93, rfl, by kernel_rfl⟩
theorem cl110 : Callable Try.prog 110 := ⟨_, Try.func110, rfl, by kernel_rfl⟩
theorem cl111 : Callable Try.prog 111 := ⟨_, Try.func111, rfl, by kernel_rfl⟩
theorem cl112 : Callable Try.prog 112 := ⟨_, Try.func112, rfl, by kernel_rfl⟩
theorem cl113 : Callable Try.prog 113 := ⟨_, Try.func113, rfl, by kernel_rfl⟩
theorem cl114 : Callable Try.prog 114 := ⟨_, Try.func114, rfl, by kernel_rfl⟩
theorem cl115 : Callable Try.prog 115 := ⟨_, Try.func115, rfl, by kernel_rfl⟩
theorem cl116 : Callable Try.prog 116 := ⟨_, Try.func116, rfl, by kernel_rfl⟩
theorem cl117 : Callable Try.prog 117 := ⟨_, Try.func117, rfl, by kernel_rfl⟩
theorem cl131 : Callable Try.prog 131 := ⟨_, Try.func131, rfl, by kernel_rfl⟩
theorem cl132 : Callable Try.prog 132 := ⟨_, Try.func132, rfl, by kernel_rfl⟩
theorem cl133 : Callable Try.prog 133 := ⟨_, Try.func133, rfl, by kernel_rfl⟩
theorem cl134 : Callable Try.prog 134 := ⟨_, Try.func134, rfl, by kernel_rfl⟩
theorem cl135 : Callable Try.prog 135 := ⟨_, Try.func135, rfl, by kernel_rfl⟩
theorem cl136 : Callable Try.prog 136 := ⟨_, Try.func136, rfl, by kernel_rfl⟩
theorem cl137 : Callable Try.prog 137 := ⟨_, Try.func137, rfl, by kernel_rfl⟩
theorem cl140 : Callable Try.prog 140 := ⟨_, Try.func140, rfl, by kernel_rfl⟩
theorem cl141 : Callable Try.prog 141 := ⟨_, Try.func141, rfl, by kernel_rfl⟩
theorem cl142 : Callable Try.prog 142 := ⟨_, Try.func142, rfl, by kernel_rfl⟩
theorem cl143 : Callable Try.prog 143 := ⟨_, Try.func143, rfl, by kernel_rfl⟩
theorem cl144 : Callable Try.prog 144 := ⟨_, Try.func144, rfl, by kernel_rfl⟩
theorem cl145 : Callable Try.prog 145 := ⟨_, Try.func145, rfl, by kernel_rfl⟩
theorem cl146 : Callable Try.prog 146 := ⟨_, Try.func146, rfl, by kernel_rfl⟩
theorem cl147 : Callable Try.prog 147 := ⟨_, Try.func147, rfl, by kernel_rfl⟩
theorem cl148 : Callable Try.prog 148 := ⟨_, Try.func148, rfl, by kernel_rfl⟩
theorem cl149 : Callable Try.prog 149 := ⟨_, Try.func149, rfl, by kernel_rfl⟩
theorem cl150 : Callable Try.prog 150 := ⟨_, Try.func150, rfl, by kernel_rfl⟩
theorem cl151 : Callable Try.prog 151 := ⟨_, Try.func151, rfl, by kernel_rfl⟩
theorem cl152 : Callable Try.prog 152 := ⟨_, Try.func152, rfl, by kernel_rfl⟩
theorem cl153 : Callable Try.prog 153 := ⟨_, Try.func153, rfl, by kernel_rfl⟩
theorem cl154 : Callable Try.prog 154 := ⟨_, Try.func154, rfl, by kernel_rfl⟩
theorem cl155 : Callable Try.prog 155 := ⟨_, Try.func155, rfl, by kernel_rfl⟩
theorem cl156 : Callable Try.prog 156 := ⟨_, Try.func156, rfl, by kernel_rfl⟩
theorem cl157 : Callable Try.prog 157 := ⟨_, Try.func157, rfl, by kernel_rfl⟩
end Go.Proofs.Ytjhfabimacljhaa.K
