/- Parts of the proof, cut to what it uses: Shelf2, GoodN. -/
import Derived.BigGuard
import Derived.BigQuiet
import Derived.Deep.QuietTactic
import Derived.Handy
import Derived.Outline
import Derived.OwnWalk
import Derived.Shelf.Abstract
import Derived.Shelf.LaysM
import Derived.Shelf.Small.Strs
import Derived.Shelf.Strings.Builder1
import Derived.Shelf.Strings.Builder2
import Derived.Shelf.Strings.BuilderF
import Derived.Shelf.Strings.BuilderK
import Derived.Shelf.Strings.Count
import Derived.Shelf.Strings.Cut
import Derived.Shelf.Strings.OnBuilder
import Derived.Shelf.Strings.Replace
import Derived.Shelf.Strings.Search1
import Derived.Shelf.Strings.Search2
import Derived.Shelf.Strings.Search3
import Derived.Shelf.Strings.Shaped
import Derived.Shelf.Strings.Split
import Derived.Shelf.Unicode.DecodeSlow
import Derived.Test.YtbeelgaganbblaaDoorProg
import Derived.Test.YtbeelgaganbblaaDoorV0
import Derived.WalkLawsBesides
import Derived.WalkSpells
namespace Go.Proofs
open Go.Shelf
def Tryd.lays167_ren : Go.Shelf.Ren := ⟨fun | 167 => 28 | 240 => 47 | 276 => 84 | n => n, fun | 0 => 0 | 4 => 4 | 5 => 5 | 9 => 9 | 20 => 20 | 37 => 37 | 70 => 49 | 72 => 51 | 75 => 54 | 80 => 60 | 164 => 116 | n => n, fun | n => n⟩
theorem Tryd.lays167 : Go.Proofs.Lays.n167 Tryd.prog Tryd.lays167_ren := {
  mixed := by kernel_rfl
  f167 := Tryd.func28.trans (congrArg some (by kernel_rfl))
  f240 := Tryd.func47.trans (congrArg some (by kernel_rfl))
  f276 := Tryd.func84.trans (congrArg some (by kernel_rfl))
  t0 := Tryd.underlying0
  a0 := Tryd.isAgg0
  z0 := Tryd.sizeOf0
  v0 := Tryd.zeroValue0
  t4 := Tryd.underlying4
  a4 := Tryd.isAgg4
  z4 := Tryd.sizeOf4
  v4 := Tryd.zeroValue4
  t5 := Tryd.underlying5
  a5 := Tryd.isAgg5
  z5 := Tryd.sizeOf5
  v5 := Tryd.zeroValue5
  t9 := Tryd.underlying9
  a9 := Tryd.isAgg9
  z9 := Tryd.sizeOf9
  v9 := Tryd.zeroValue9
  t20 := Tryd.underlying20
  a20 := Tryd.isAgg20
  z20 := Tryd.sizeOf20
  v20 := Tryd.zeroValue20
  t37 := Tryd.underlying37
  a37 := Tryd.isAgg37
  z37 := Tryd.sizeOf37
  v37 := Tryd.zeroValue37
  t70 := Tryd.underlying49
  a70 := Tryd.isAgg49
  z70 := Tryd.sizeOf49
  v70 := Tryd.zeroValue49
  t72 := Tryd.underlying51
  a72 := Tryd.isAgg51
  z72 := Tryd.sizeOf51
  v72 := Tryd.zeroValue51
  t75 := Tryd.underlying54
  a75 := Tryd.isAgg54
  z75 := Tryd.sizeOf54
  v75 := Tryd.zeroValue54
  t164 := Tryd.underlying116
  a164 := Tryd.isAgg116
  z164 := Tryd.sizeOf116
  v164 := Tryd.zeroValue116 }
def Tryd.lays166_ren : Go.Shelf.Ren := ⟨fun | 166 => 29 | 240 => 47 | 276 => 84 | n => n, fun | 0 => 0 | 3 => 3 | 4 => 4 | 5 => 5 | 9 => 9 | 20 => 20 | 37 => 37 | 70 => 49 | 72 => 51 | 75 => 54 | 80 => 60 | 164 => 116 | n => n, fun | n => n⟩
theorem Tryd.lays166 : Go.Proofs.Lays.n166 Tryd.prog Tryd.lays166_ren := {
  mixed := by kernel_rfl
  f166 := Tryd.func29.trans (congrArg some (by kernel_rfl))
  f240 := Tryd.func47.trans (congrArg some (by kernel_rfl))
  f276 := Tryd.func84.trans (congrArg some (by kernel_rfl))
  t0 := Tryd.underlying0
  a0 := Tryd.isAgg0
  z0 := Tryd.sizeOf0
  v0 := Tryd.zeroValue0
  t3 := Tryd.underlying3
  a3 := Tryd.isAgg3
  z3 := Tryd.sizeOf3
  v3 := Tryd.zeroValue3
  t4 := Tryd.underlying4
  a4 := Tryd.isAgg4
  z4 := Tryd.sizeOf4
  v4 := Tryd.zeroValue4
  t9 := Tryd.underlying9
  a9 := Tryd.isAgg9
  z9 := Tryd.sizeOf9
  v9 := Tryd.zeroValue9
  t20 := Tryd.underlying20
  a20 := Tryd.isAgg20
  z20 := Tryd.sizeOf20
  v20 := Tryd.zeroValue20
  t37 := Tryd.underlying37
  a37 := Tryd.isAgg37
  z37 := Tryd.sizeOf37
  v37 := Tryd.zeroValue37
  t70 := Tryd.underlying49
  a70 := Tryd.isAgg49
  z70 := Tryd.sizeOf49
  v70 := Tryd.zeroValue49
  t72 := Tryd.underlying51
  a72 := Tryd.isAgg51
  z72 := Tryd.sizeOf51
  v72 := Tryd.zeroValue51
  t75 := Tryd.underlying54
  a75 := Tryd.isAgg54
  z75 := Tryd.sizeOf54
  v75 := Tryd.zeroValue54
  t164 := Tryd.underlying116
  a164 := Tryd.isAgg116
  z164 := Tryd.sizeOf116
  v164 := Tryd.zeroValue116 }
theorem Tryd.Builder_Extra_167 : Builder.Extra Tryd.prog Tryd.lays167_ren := {
  sizeBuilder := by kernel_rfl
  liesBuilder := by kernel_rfl
  t5 := Tryd.underlying5
  a5 := Tryd.isAgg5
  z5 := Tryd.sizeOf5
  v5 := Tryd.zeroValue5
  infoByte := by kernel_rfl
  cellsByte := by kernel_rfl
  sizeByte := by kernel_rfl
  neB5 := by decide }
theorem Tryd.Builder_Extra_166 : Builder.Extra Tryd.prog Tryd.lays166_ren := {
  sizeBuilder := by kernel_rfl
  liesBuilder := by kernel_rfl
  t5 := Tryd.underlying5
  a5 := Tryd.isAgg5
  z5 := Tryd.sizeOf5
  v5 := Tryd.zeroValue5
  infoByte := by kernel_rfl
  cellsByte := by kernel_rfl
  sizeByte := by kernel_rfl
  neB5 := by decide }
open Go.RowKit in
theorem Tryd.Builder_WriteByte_k (B b : Nat) (bs : List Value) (c : Int) (w : World) (h : Lib.IsBuilderF 51 5 B b bs w) (hlen : bs.length + 1 ≤ 140737488355328) (hBw : B ≤ w.heap.size) :
    Calls Tryd.prog 28 #[.pointer (some ⟨b, 0, none⟩), .int .u8 c] w fun e w' => e = .returned .nilIface ∧ (Lib.BuilderAtF 51 5 B b (.pointer (some ⟨b, 0, none⟩)) (bs ++ [.int .u8 c]) w' ∧ Below B w w' ∧ Lib.OthersKept 5 (some b) w w') := Any.Builder_WriteByte_k Tryd.lays167 Tryd.Builder_Extra_167 B b bs c w h hlen hBw
open Go.RowKit in
theorem Tryd.Builder_WriteString_k (B b : Nat) (bs : List Value) (s : ByteArray) (w : World) (h : Lib.IsBuilderF 51 5 B b bs w) (hlen : bs.length + s.size ≤ 140737488355328) (hBw : B ≤ w.heap.size) :
    Calls Tryd.prog 29 #[.pointer (some ⟨b, 0, none⟩), .string s] w fun e w' => e = .returned (.tuple #[.int .i64 s.size, .nilIface]) ∧ (Lib.BuilderAtF 51 5 B b (.pointer (some ⟨b, 0, none⟩)) (bs ++ Lib.strCells s) w' ∧ Below B w w' ∧ Lib.OthersKept 5 (some b) w w') := Any.Builder_WriteString_k Tryd.lays166 Tryd.Builder_Extra_166 B b bs s w h hlen hBw
def Tryd.lays169_ren : Go.Shelf.Ren := ⟨fun | 169 => 32 | n => n, fun | 70 => 49 | 9 => 9 | 0 => 0 | 72 => 51 | 37 => 37 | 127 => 87 | 3 => 3 | 5 => 5 | n => n, fun | n => n⟩
theorem Tryd.lays169 : Go.Proofs.Lays.n169 Tryd.prog Tryd.lays169_ren := {
  mixed := by kernel_rfl
  f169 := Tryd.func32.trans (congrArg some (by kernel_rfl))
  t0 := Tryd.underlying0
  a0 := Tryd.isAgg0
  z0 := Tryd.sizeOf0
  v0 := Tryd.zeroValue0
  t3 := Tryd.underlying3
  a3 := Tryd.isAgg3
  z3 := Tryd.sizeOf3
  v3 := Tryd.zeroValue3
  t9 := Tryd.underlying9
  a9 := Tryd.isAgg9
  z9 := Tryd.sizeOf9
  v9 := Tryd.zeroValue9
  t37 := Tryd.underlying37
  a37 := Tryd.isAgg37
  z37 := Tryd.sizeOf37
  v37 := Tryd.zeroValue37
  t70 := Tryd.underlying49
  a70 := Tryd.isAgg49
  z70 := Tryd.sizeOf49
  v70 := Tryd.zeroValue49
  t72 := Tryd.underlying51
  a72 := Tryd.isAgg51
  z72 := Tryd.sizeOf51
  v72 := Tryd.zeroValue51
  t127 := Tryd.underlying87
  a127 := Tryd.isAgg87
  z127 := Tryd.sizeOf87
  v127 := Tryd.zeroValue87 }
theorem Tryd.Builder_Extra_169 : Builder.Extra Tryd.prog Tryd.lays169_ren := {
  sizeBuilder := by kernel_rfl
  liesBuilder := by kernel_rfl
  t5 := Tryd.underlying5
  a5 := Tryd.isAgg5
  z5 := Tryd.sizeOf5
  v5 := Tryd.zeroValue5
  infoByte := by kernel_rfl
  cellsByte := by kernel_rfl
  sizeByte := by kernel_rfl
  neB5 := by decide }
open Go.RowKit in
theorem Tryd.Builder_String_any_k (B b : Nat) (l : List UInt8) (w : World) (h : Lib.IsBuilderF 51 5 B b (Lib.byteCells l) w) (hBw : B ≤ w.heap.size) :
    Calls Tryd.prog 32 #[.pointer (some ⟨b, 0, none⟩)] w fun e w' => e = .returned (.string ⟨l.toArray⟩) ∧ (Lib.IsBuilderF 51 5 B b (Lib.byteCells l) w' ∧ Below B w w' ∧ Lib.OthersKept 5 (some b) w w') := Any.Builder_String_any_k Tryd.lays169 Tryd.Builder_Extra_169 B b l w h hBw
def Tryd.lays145_ren : Go.Shelf.Ren := ⟨fun | 145 => 81 | 220 => 101 | 219 => 104 | 217 => 99 | 225 => 119 | 224 => 120 | 267 => 121 | 266 => 117 | 314 => 127 | n => n, fun | 9 => 9 | 4 => 4 | 59 => 114 | 3 => 3 | 5 => 5 | 46 => 145 | 146 => 156 | 51 => 135 | n => n, fun | 1 => 0 | n => n⟩
theorem Tryd.lays145 : Go.Proofs.Lays.n145 Tryd.prog Tryd.lays145_ren := {
  mixed := by kernel_rfl
  f145 := Tryd.func81.trans (congrArg some (by kernel_rfl))
  f217 := Tryd.func99.trans (congrArg some (by kernel_rfl))
  f219 := Tryd.func104.trans (congrArg some (by kernel_rfl))
  f220 := Tryd.func101.trans (congrArg some (by kernel_rfl))
  f224 := Tryd.func120.trans (congrArg some (by kernel_rfl))
  f225 := Tryd.func119.trans (congrArg some (by kernel_rfl))
  f266 := Tryd.func117.trans (congrArg some (by kernel_rfl))
  f267 := Tryd.func121.trans (congrArg some (by kernel_rfl))
  f314 := Tryd.func127.trans (congrArg some (by kernel_rfl))
  t3 := Tryd.underlying3
  a3 := Tryd.isAgg3
  z3 := Tryd.sizeOf3
  v3 := Tryd.zeroValue3
  t4 := Tryd.underlying4
  a4 := Tryd.isAgg4
  z4 := Tryd.sizeOf4
  v4 := Tryd.zeroValue4
  t5 := Tryd.underlying5
  a5 := Tryd.isAgg5
  z5 := Tryd.sizeOf5
  v5 := Tryd.zeroValue5
  t9 := Tryd.underlying9
  a9 := Tryd.isAgg9
  z9 := Tryd.sizeOf9
  v9 := Tryd.zeroValue9
  t46 := Tryd.underlying145
  a46 := Tryd.isAgg145
  z46 := Tryd.sizeOf145
  v46 := Tryd.zeroValue145
  t51 := Tryd.underlying135
  a51 := Tryd.isAgg135
  z51 := Tryd.sizeOf135
  v51 := Tryd.zeroValue135
  t59 := Tryd.underlying114
  a59 := Tryd.isAgg114
  z59 := Tryd.sizeOf114
  v59 := Tryd.zeroValue114
  t146 := Tryd.underlying156
  a146 := Tryd.isAgg156
  z146 := Tryd.sizeOf156
  v146 := Tryd.zeroValue156
  g1 := by kernel_rfl }
open Go.RowKit Go.Lib in
theorem Tryd.strings_Cut (s sep : ByteArray) (m : Int) (w : World) (hs : s.size < 4294967281) (hm : w.cell? ⟨0, 0, none⟩ = some (.int .i64 m)) :
    Calls Tryd.prog 81 #[.string s, .string sep] w fun e w' => e = .returned (.tuple #[.string ⟨(Lib.cut s.data.toList sep.data.toList).1.toArray⟩, .string ⟨(Lib.cut s.data.toList sep.data.toList).2.1.toArray⟩, .bool (Lib.cut s.data.toList sep.data.toList).2.2]) ∧ ∃ n, w' = w.drewN n := Any.strings_Cut Tryd.lays145 s sep m w hs hm
def Tryd.lays155_ren : Go.Shelf.Ren := ⟨fun | 155 => 31 | 154 => 49 | 138 => 85 | 165 => 61 | 143 => 86 | 166 => 29 | 197 => 87 | 169 => 32 | 195 => 102 | 218 => 103 | 240 => 47 | 241 => 95 | 219 => 104 | 260 => 105 | 276 => 84 | 277 => 114 | 217 => 99 | 225 => 119 | 224 => 120 | 267 => 121 | 266 => 117 | 314 => 127 | n => n, fun | 9 => 9 | 3 => 3 | 4 => 4 | 72 => 51 | 0 => 0 | 76 => 56 | 105 => 119 | 21 => 21 | 5 => 5 | 70 => 49 | 20 => 20 | 37 => 37 | 75 => 54 | 127 => 87 | 164 => 116 | 46 => 145 | 119 => 147 | 139 => 150 | 138 => 149 | 146 => 156 | 51 => 135 | 80 => 60 | n => n, fun | 1 => 0 | 3 => 1 | 4 => 2 | n => n⟩
theorem Tryd.lays155 : Go.Proofs.Lays.n155 Tryd.prog Tryd.lays155_ren := {
  mixed := by kernel_rfl
  f138 := Tryd.func85.trans (congrArg some (by kernel_rfl))
  f143 := Tryd.func86.trans (congrArg some (by kernel_rfl))
  f154 := Tryd.func49.trans (congrArg some (by kernel_rfl))
  f155 := Tryd.func31.trans (congrArg some (by kernel_rfl))
  f165 := Tryd.func61.trans (congrArg some (by kernel_rfl))
  f166 := Tryd.func29.trans (congrArg some (by kernel_rfl))
  f169 := Tryd.func32.trans (congrArg some (by kernel_rfl))
  f195 := Tryd.func102.trans (congrArg some (by kernel_rfl))
  f197 := Tryd.func87.trans (congrArg some (by kernel_rfl))
  f217 := Tryd.func99.trans (congrArg some (by kernel_rfl))
  f218 := Tryd.func103.trans (congrArg some (by kernel_rfl))
  f219 := Tryd.func104.trans (congrArg some (by kernel_rfl))
  f224 := Tryd.func120.trans (congrArg some (by kernel_rfl))
  f225 := Tryd.func119.trans (congrArg some (by kernel_rfl))
  f240 := Tryd.func47.trans (congrArg some (by kernel_rfl))
  f241 := Tryd.func95.trans (congrArg some (by kernel_rfl))
  f260 := Tryd.func105.trans (congrArg some (by kernel_rfl))
  f266 := Tryd.func117.trans (congrArg some (by kernel_rfl))
  f267 := Tryd.func121.trans (congrArg some (by kernel_rfl))
  f276 := Tryd.func84.trans (congrArg some (by kernel_rfl))
  f277 := Tryd.func114.trans (congrArg some (by kernel_rfl))
  f314 := Tryd.func127.trans (congrArg some (by kernel_rfl))
  t0 := Tryd.underlying0
  a0 := Tryd.isAgg0
  z0 := Tryd.sizeOf0
  v0 := Tryd.zeroValue0
  t3 := Tryd.underlying3
  a3 := Tryd.isAgg3
  z3 := Tryd.sizeOf3
  v3 := Tryd.zeroValue3
  t4 := Tryd.underlying4
  a4 := Tryd.isAgg4
  z4 := Tryd.sizeOf4
  v4 := Tryd.zeroValue4
  t5 := Tryd.underlying5
  a5 := Tryd.isAgg5
  z5 := Tryd.sizeOf5
  v5 := Tryd.zeroValue5
  t9 := Tryd.underlying9
  a9 := Tryd.isAgg9
  z9 := Tryd.sizeOf9
  v9 := Tryd.zeroValue9
  t20 := Tryd.underlying20
  a20 := Tryd.isAgg20
  z20 := Tryd.sizeOf20
  v20 := Tryd.zeroValue20
  t21 := Tryd.underlying21
  a21 := Tryd.isAgg21
  z21 := Tryd.sizeOf21
  v21 := Tryd.zeroValue21
  t37 := Tryd.underlying37
  a37 := Tryd.isAgg37
  z37 := Tryd.sizeOf37
  v37 := Tryd.zeroValue37
  t46 := Tryd.underlying145
  a46 := Tryd.isAgg145
  z46 := Tryd.sizeOf145
  v46 := Tryd.zeroValue145
  t51 := Tryd.underlying135
  a51 := Tryd.isAgg135
  z51 := Tryd.sizeOf135
  v51 := Tryd.zeroValue135
  t70 := Tryd.underlying49
  a70 := Tryd.isAgg49
  z70 := Tryd.sizeOf49
  v70 := Tryd.zeroValue49
  t72 := Tryd.underlying51
  a72 := Tryd.isAgg51
  z72 := Tryd.sizeOf51
  v72 := Tryd.zeroValue51
  t75 := Tryd.underlying54
  a75 := Tryd.isAgg54
  z75 := Tryd.sizeOf54
  v75 := Tryd.zeroValue54
  t76 := Tryd.underlying56
  a76 := Tryd.isAgg56
  z76 := Tryd.sizeOf56
  v76 := Tryd.zeroValue56
  t105 := Tryd.underlying119
  a105 := Tryd.isAgg119
  z105 := Tryd.sizeOf119
  v105 := Tryd.zeroValue119
  t119 := Tryd.underlying147
  a119 := Tryd.isAgg147
  z119 := Tryd.sizeOf147
  t127 := Tryd.underlying87
  a127 := Tryd.isAgg87
  z127 := Tryd.sizeOf87
  v127 := Tryd.zeroValue87
  t138 := Tryd.underlying149
  a138 := Tryd.isAgg149
  z138 := Tryd.sizeOf149
  v138 := Tryd.zeroValue149
  t139 := Tryd.underlying150
  a139 := Tryd.isAgg150
  z139 := Tryd.sizeOf150
  v139 := Tryd.zeroValue150
  t146 := Tryd.underlying156
  a146 := Tryd.isAgg156
  z146 := Tryd.sizeOf156
  v146 := Tryd.zeroValue156
  t164 := Tryd.underlying116
  a164 := Tryd.isAgg116
  z164 := Tryd.sizeOf116
  v164 := Tryd.zeroValue116
  g1 := by kernel_rfl
  g3 := by kernel_rfl
  g4 := by kernel_rfl }
theorem Tryd.Builder_Extra_155 : Builder.Extra Tryd.prog Tryd.lays155_ren := {
  sizeBuilder := by kernel_rfl
  liesBuilder := by kernel_rfl
  t5 := Tryd.underlying5
  a5 := Tryd.isAgg5
  z5 := Tryd.sizeOf5
  v5 := Tryd.zeroValue5
  infoByte := by kernel_rfl
  cellsByte := by kernel_rfl
  sizeByte := by kernel_rfl
  neB5 := by decide }
open Go.RowKit Go.Lib in
theorem Tryd.strings_ReplaceAll (s old new : ByteArray) (m : Int) (w : World) (hs : s.size < 4294967281) (hm : w.cell? ⟨0, 0, none⟩ = some (.int .i64 m)) (h1 : 1 ≤ old.size) (hlen : s.size + Lib.countB s old * new.size ≤ 140737488355328) :
    Calls Tryd.prog 31 #[.string s, .string old, .string new] w fun e w' =>
      e = .returned (.string ⟨(Lib.replaceAll s.data.toList old.data.toList new.data.toList).toArray⟩) ∧ Below w.heap.size w w' := Any.strings_ReplaceAll Tryd.lays155 Tryd.Builder_Extra_155 s old new m w hs hm h1 hlen
end Go.Proofs
namespace Go.Proofs.YtbeelgaganbblaaDoor.Gn
open Go.RowKit Go.Proofs.YtbeelgaganbblaaDoorW.PrintWords Go.Proofs.YtbeelgaganbblaaDoor Go.Proofs.YtbeelgaganbblaaDoor.By Go.Proofs.YtbeelgaganbblaaDoor.Tok Go.Proofs.YtbeelgaganbblaaDoor.Tree
set_option linter.unusedVariables false
set_option linter.unusedSimpArgs false
set_option maxRecDepth 100000
def Tab (w : World) : Prop := ∃ m, w.cell? ⟨0, 0, none⟩ = some (.int .i64 m)
theorem Tab.below {B : Nat} {w w' : World} (h : Tab w) (hb : Below B w w') (hB : 0 < B) : Tab w' := by
  obtain ⟨m, hm⟩ := h; exact ⟨m, (hb.cell hB).trans hm⟩
theorem Tab.lt {w : World} (h : Tab w) : 0 < w.heap.size := by
  obtain ⟨m, hm⟩ := h; unfold World.cell? at hm
  by_cases hl : 0 < w.heap.size
  · exact hl
  · rw [Array.getElem?_eq_none (by omega)] at hm; simp at hm
theorem Tab.here {w w' : World} (h : Tab w) (hb : Below w.heap.size w w') : Tab w' := h.below hb h.lt
def digI (c : Int) : Bool := decide (48 ≤ c) && decide (c ≤ 57)
def inbI (c : Int) : Bool := decide (32 ≤ c) && decide (c ≤ 126) && !decide (c = 124) && !decide (c = 92)
def binI (c : Int) : Bool := decide (c = 48) || decide (c = 49)
def inqI (c : Int) : Bool := decide (c = 10) || (decide (32 ≤ c) && decide (c ≤ 126))
theorem digI_of (c : UInt8) : digI (c.toNat : Int) = dig c := by unfold digI dig; rw [Bool.eq_iff_iff]; simp; omega
theorem inbI_of (c : UInt8) : inbI (c.toNat : Int) = inb c := by
  have e1 := u8_eq (c := c) 124 (by decide); have e2 := u8_eq (c := c) 92 (by decide); unfold inbI inb; rw [Bool.eq_iff_iff]; simp only [Bool.and_eq_true, decide_eq_true_eq, Bool.not_eq_true', decide_eq_false_iff_not, beq_eq_false_iff_ne, ne_eq]
  constructor
  · rintro ⟨⟨⟨a, b⟩, d⟩, e⟩; exact ⟨⟨⟨by omega, by omega⟩, fun h => d (e1.2 h)⟩, fun h => e (e2.2 h)⟩
  · rintro ⟨⟨⟨a, b⟩, d⟩, e⟩; exact ⟨⟨⟨by omega, by omega⟩, fun h => d (e1.1 h)⟩, fun h => e (e2.1 h)⟩
theorem binI_of (c : UInt8) : binI (c.toNat : Int) = bin c := by
  have e1 := u8_eq (c := c) 48 (by decide); have e2 := u8_eq (c := c) 49 (by decide); unfold binI bin; rw [Bool.eq_iff_iff]; simp only [Bool.or_eq_true, decide_eq_true_eq, beq_iff_eq]; exact or_congr e1 e2
theorem inqI_of (c : UInt8) : inqI (c.toNat : Int) = inq c := by
  have e1 := u8_eq (c := c) 10 (by decide); unfold inqI inq; rw [Bool.eq_iff_iff]; simp only [Bool.or_eq_true, Bool.and_eq_true, decide_eq_true_eq, beq_iff_eq]; exact or_congr e1 (by constructor <;> rintro ⟨a, b⟩ <;> exact ⟨by omega, by omega⟩)
theorem digitB_any (c : Int) (w : World) (h0 : 0 ≤ c) (h1 : c ≤ 255) : Calls Tryd.prog 74 #[.int .u8 c] w fun e w' => e = .returned (.bool (digI c)) ∧ w = w' := by
  go_enter Tryd.func74, Tryd.ntmps74; go_wp2
  all_goals (go_ret; refine ⟨ret_bool ?_, rfl⟩; rw [Bool.eq_iff_iff]; unfold digI; simp; try omega)
theorem inBars_any (c : Int) (w : World) (h0 : 0 ≤ c) (h1 : c ≤ 255) : Calls Tryd.prog 71 #[.int .u8 c] w fun e w' => e = .returned (.bool (inbI c)) ∧ w = w' := by
  go_enter Tryd.func71, Tryd.ntmps71; go_wp2_with (go_in)
  all_goals (go_ret; refine ⟨ret_bool ?_, rfl⟩; rw [Bool.eq_iff_iff]; unfold inbI; simp; try omega)
theorem bits_any (c : Int) (w : World) (h0 : 0 ≤ c) (h1 : c ≤ 255) : Calls Tryd.prog 82 #[.int .u8 c] w fun e w' => e = .returned (.bool (binI c)) ∧ w = w' := by
  go_enter Tryd.func82, Tryd.ntmps82; go_wp2_with (go_in)
  all_goals (go_ret; refine ⟨ret_bool ?_, rfl⟩; rw [Bool.eq_iff_iff]; unfold binI; simp; try omega)
theorem text_any (c : Int) (w : World) (h0 : 0 ≤ c) (h1 : c ≤ 255) : Calls Tryd.prog 83 #[.int .u8 c] w fun e w' => e = .returned (.bool (inqI c)) ∧ w = w' := by
  go_enter Tryd.func83, Tryd.ntmps83; go_wp2_with (go_in)
  all_goals (go_ret; refine ⟨ret_bool ?_, rfl⟩; rw [Bool.eq_iff_iff]; unfold inqI; simp; try omega)
theorem all_take (q : UInt8 → Bool) (s : ByteArray) (k : Nat) (h : k < s.size) : ((L s).take (k + 1)).all q = (((L s).take k).all q && q (at_ s k)) := by
  have := Tok.get_at s k h; rw [List.take_add_one, List.all_append, this]; simp
theorem all_no {q : UInt8 → Bool} {s : ByteArray} {k : Nat} (h : k < s.size) (hq : q (at_ s k) = false) : (L s).all q = false := by
  have h1 := Tok.get_at s k h; rw [← List.take_append_drop (k + 1) (L s), List.all_append, all_take q s k h, hq, Bool.and_false, Bool.false_and]
theorem all_any (f : FuncId) (eF : ∀ args w, (callFunc f args).run Tryd.prog w = .ok (.enter f args) w) (p : Int → Bool) (q : UInt8 → Bool)
    (hp : ∀ (c : Int) (W : World), 0 ≤ c → c ≤ 255 → Calls Tryd.prog f #[.int .u8 c] W fun e w' => e = .returned (.bool (p c)) ∧ W = w') (hq : ∀ c : UInt8, p (c.toNat : Int) = q c)
    (b : Nat) (s : ByteArray) (w : World) (hs : s.size ≤ 140737488351232) (hc : w.cell? ⟨b, 1, none⟩ = some (.string s)) :
    Calls Tryd.prog 79 #[.func (.func f) #[] #[], .pointer (some ⟨b, 0, none⟩)] w fun e w' => e = .returned (.bool ((L s).all q)) ∧ w = w' := by
  have HP : Hid (∀ (c : Int) (W : World), 0 ≤ c → c ≤ 255 → Calls Tryd.prog f #[.int .u8 c] W fun e w' => e = .returned (.bool (p c)) ∧ W = w') := hp; have HQ : Hid (∀ c : UInt8, p (c.toNat : Int) = q c) := hq; clear hp hq; go_enter Tryd.func79, Tryd.ntmps79; go_wp2; go_loop [8] (fun i => ∃ k : Nat, k ≤ s.size ∧ i = .int .i64 k ∧ Hid (((L s).take k).all q = true)) (fun i => s.size - (intOf i).toNat)
  case atStart => exact ⟨0, Nat.zero_le _, rfl, by rfl⟩
  case round =>
    obtain ⟨k, hk, rfl, HA⟩ := hrel
    by_cases hlt : k < s.size
    · have hx : ∀ h : k < s.size, ((s[k]'h).toNat : Int) = bt s k := ZH s k; obtain ⟨b0, b1⟩ := bt_range s k; obtain ⟨d, hd⟩ : ∃ d, bt s k = d := ⟨_, rfl⟩; have HD : Hid (((at_ s k).toNat : Int) = d) := (at_int s k hlt).symm.trans hd; rw [hd] at b0 b1 hx; clear hd
      cases hv : p d with
      | true =>
        have HV : Hid (q (at_ s k) = true) := by show q (at_ s k) = true; rw [← HQ.out, HD.out]; exact hv
        have HC : Hid (∀ W, Calls Tryd.prog f #[.int .u8 d] W fun e w' => e = .returned (.bool true) ∧ W = w') := fun W => by have := HP.out d W b0 b1; rw [hv] at this; exact this
        clear hv; go_wp2_with (go_at_fn f; refine (HC.out _).mono ?_; rintro e w' ⟨rfl, rfl⟩); go_round
        case rel => exact ⟨k + 1, by omega, by go_num, by show ((L s).take (k + 1)).all q = true; rw [all_take q s k hlt, HA.out, HV.out]; rfl⟩
        case measure => simp [intOf]; omega
      | false =>
        have HV : Hid (q (at_ s k) = false) := by show q (at_ s k) = false; rw [← HQ.out, HD.out]; exact hv
        have HC : Hid (∀ W, Calls Tryd.prog f #[.int .u8 d] W fun e w' => e = .returned (.bool false) ∧ W = w') := fun W => by have := HP.out d W b0 b1; rw [hv] at this; exact this
        clear hv; go_wp2_with (go_at_fn f; refine (HC.out _).mono ?_; rintro e w' ⟨rfl, rfl⟩); go_ret; exact ⟨ret_bool (all_no hlt HV.out).symm, rfl⟩
    · go_wp2; go_ret; exact ⟨ret_bool (by have := HA.out; rw [List.take_of_length_le (by rw [L_length]; omega)] at this; rw [this]), rfl⟩
theorem all_inb (b : Nat) (s : ByteArray) (w : World) (hs : s.size ≤ 140737488351232) (hc : w.cell? ⟨b, 1, none⟩ = some (.string s)) :
    Calls Tryd.prog 79 #[.func (.func 71) #[] #[], .pointer (some ⟨b, 0, none⟩)] w fun e w' => e = .returned (.bool ((L s).all inb)) ∧ w = w' :=
  all_any 71 (enters_of Tryd.func71 (by kernel_rfl) rfl) inbI inb (fun c W h0 h1 => inBars_any c W h0 h1) inbI_of b s w hs hc
theorem all_bin (b : Nat) (s : ByteArray) (w : World) (hs : s.size ≤ 140737488351232) (hc : w.cell? ⟨b, 1, none⟩ = some (.string s)) :
    Calls Tryd.prog 79 #[.func (.func 82) #[] #[], .pointer (some ⟨b, 0, none⟩)] w fun e w' => e = .returned (.bool ((L s).all bin)) ∧ w = w' :=
  all_any 82 (enters_of Tryd.func82 (by kernel_rfl) rfl) binI bin (fun c W h0 h1 => bits_any c W h0 h1) binI_of b s w hs hc
theorem all_inq (b : Nat) (s : ByteArray) (w : World) (hs : s.size ≤ 140737488351232) (hc : w.cell? ⟨b, 1, none⟩ = some (.string s)) :
    Calls Tryd.prog 79 #[.func (.func 83) #[] #[], .pointer (some ⟨b, 0, none⟩)] w fun e w' => e = .returned (.bool ((L s).all inq)) ∧ w = w' :=
  all_any 83 (enters_of Tryd.func83 (by kernel_rfl) rfl) inqI inq (fun c W h0 h1 => text_any c W h0 h1) inqI_of b s w hs hc
theorem all_nm (b : Nat) (s : ByteArray) (w : World) (hs : s.size ≤ 140737488351232) (hc : w.cell? ⟨b, 1, none⟩ = some (.string s)) :
    Calls Tryd.prog 79 #[.func (.func 72) #[] #[], .pointer (some ⟨b, 0, none⟩)] w fun e w' => e = .returned (.bool ((L s).all nm)) ∧ w = w' :=
  all_any 72 (enters_of Tryd.func72 (by kernel_rfl) rfl) nmB nm (fun c W h0 h1 => impl_nameB_any c W h0 h1) (fun _ => rfl) b s w hs hc
theorem wholeT_no {s : ByteArray} (h0 : 0 < s.size) (hd : at_ s 0 = 48) (h1 : 1 < s.size) : wholeT (L s) = false := by
  have e := Tok.get_at s 0 h0; unfold wholeT; rw [e, hd, L_length, decide_eq_true h1]; simp
theorem wholeT_yes {s : ByteArray} (h0 : 0 < s.size) (h : ¬ (at_ s 0 = 48 ∧ 1 < s.size)) : wholeT (L s) = (L s).all dig := by
  have e := Tok.get_at s 0 h0
  have hne : L s ≠ [] := fun h => by have := L_length s; rw [h] at this; simp at this; omega
  unfold wholeT; rw [e, L_length, decide_eq_true hne, Bool.true_and]
  have : (decide (some (at_ s 0) = some 48) && decide (1 < s.size)) = false := by
    rw [Bool.and_eq_false_iff, decide_eq_false_iff_not, decide_eq_false_iff_not]
    by_cases hh : at_ s 0 = 48
    · right; intro h2; exact h ⟨hh, h2⟩
    · left; intro h2; exact hh (Option.some.inj h2)
  rw [this]; rfl
theorem whole_any (s : ByteArray) (w : World) (hs : s.size ≤ 140737488351232) :
    Calls Tryd.prog 80 #[.string s] w fun e w' => e = .returned (.bool (wholeT (L s))) ∧ w = w' := by
  by_cases h0 : s.size = 0
  · have hl : L s = [] := List.length_eq_zero_iff.1 ((L_length s).trans h0)
    have e : s.toList.isEmpty = true := by rw [(nil_iff s).2 h0]; rfl
    rw [hl]; go_enter Tryd.func80, Tryd.ntmps80; go_wp2; go_ret; exact ⟨rfl, rfl⟩
  · have hlt : 0 < s.size := by omega
    have hne : s.toList.isEmpty = false := by
      cases h : s.toList.isEmpty with
      | false => rfl
      | true => exact absurd ((nil_iff s).1 (List.isEmpty_iff.1 h)) h0
    have hx : ∀ h : 0 < s.size, ((s[0]'h).toNat : Int) = bt s 0 := ZH s 0; obtain ⟨b0, b1⟩ := bt_range s 0; obtain ⟨d, hd⟩ : ∃ d, bt s 0 = d := ⟨_, rfl⟩; have HD : Hid (((at_ s 0).toNat : Int) = d) := (at_int s 0 hlt).symm.trans hd; rw [hd] at b0 b1 hx; clear hd h0
    have H48 : Hid (at_ s 0 = 48 ↔ d = 48) := by
      have := u8_eq (c := at_ s 0) 48 (by decide); rw [HD.out] at this; exact this.symm
    by_cases hz : d = 48 ∧ 1 < s.size
    · obtain ⟨hz1, hz2⟩ := hz; have HR : Hid (wholeT (L s) = false) := wholeT_no hlt (H48.out.2 hz1) hz2
      have hdd : (d == 48) = true := by rw [hz1]; rfl
      go_enter Tryd.func80, Tryd.ntmps80; go_wp2; go_ret; exact ⟨ret_bool HR.out.symm, rfl⟩
    · have HR : Hid (wholeT (L s) = (L s).all dig) := wholeT_yes hlt (fun ⟨h1, h2⟩ => hz ⟨H48.out.1 h1, h2⟩)
      rcases (by omega : ((d = 48) ∧ s.size ≤ 1) ∨ ¬ d = 48) with ⟨hz1, hz2⟩ | hz1
      all_goals
        clear hz; go_enter Tryd.func80, Tryd.ntmps80; go_wp2; go_loop [18] (fun i => ∃ k : Nat, k ≤ s.size ∧ i = .int .i64 k ∧ Hid (((L s).take k).all dig = true)) (fun i => s.size - (intOf i).toNat)
        case atStart => exact ⟨0, Nat.zero_le _, rfl, by rfl⟩
        case round =>
          obtain ⟨k, hk, rfl, HA⟩ := hrel
          by_cases hlk : k < s.size
          · have hxk : ∀ h : k < s.size, ((s[k]'h).toNat : Int) = bt s k := ZH s k; obtain ⟨c0, c1⟩ := bt_range s k; obtain ⟨c, hc⟩ : ∃ c, bt s k = c := ⟨_, rfl⟩; have HC : Hid (((at_ s k).toNat : Int) = c) := (at_int s k hlk).symm.trans hc; rw [hc] at c0 c1 hxk; clear hc
            cases hv : digI c with
            | true =>
              have HV : Hid (dig (at_ s k) = true) := by show dig (at_ s k) = true; rw [← digI_of, HC.out]; exact hv
              have HF : Hid (∀ W, Calls Tryd.prog 74 #[.int .u8 c] W fun e w' => e = .returned (.bool true) ∧ W = w') := fun W => by have := digitB_any c W c0 c1; rw [hv] at this; exact this
              clear hv; go_wp2_with (go_at_call 74; refine (HF.out _).mono ?_; rintro e w' ⟨rfl, rfl⟩); go_round
              case rel => exact ⟨k + 1, by omega, by go_num, by show ((L s).take (k + 1)).all dig = true; rw [all_take dig s k hlk, HA.out, HV.out]; rfl⟩
              case measure => simp [intOf]; omega
            | false =>
              have HV : Hid (dig (at_ s k) = false) := by show dig (at_ s k) = false; rw [← digI_of, HC.out]; exact hv
              have HF : Hid (∀ W, Calls Tryd.prog 74 #[.int .u8 c] W fun e w' => e = .returned (.bool false) ∧ W = w') := fun W => by have := digitB_any c W c0 c1; rw [hv] at this; exact this
              clear hv; go_wp2_with (go_at_call 74; refine (HF.out _).mono ?_; rintro e w' ⟨rfl, rfl⟩); go_ret; exact ⟨ret_bool (by rw [HR.out]; exact (all_no hlk HV.out).symm), rfl⟩
          · go_wp2; go_ret; exact ⟨ret_bool (by have := HA.out; rw [List.take_of_length_le (by rw [L_length]; omega)] at this; rw [HR.out, this]), rfl⟩
theorem nil_dec (t : ByteArray) : decide (L t = []) = t.toList.isEmpty := by
  rw [Bool.eq_iff_iff, decide_eq_true_eq, List.isEmpty_iff, toList_L]
theorem gn_1 (t : ByteArray) (n a : Int) (w : World) (hn : 0 ≤ n) (ht : t.size ≤ 1048576) :
    Calls Tryd.prog 46 #[.agg #[.int .i64 1, .string t, .int .i64 n, .int .i64 a]] w fun e w' => e = .returned (.bool (decide (L t = []))) ∧ Below w.heap.size w w' := by
  have hmf : ∀ (fn : Fn) (first cap : Array Value) (w : World), (Instr.makeFunc fn first cap).run Tryd.prog w = .ok (.func fn first cap) w := fun _ _ _ _ => rfl
  go_enter Tryd.func46, Tryd.ntmps46; go_wp2; go_ret; exact ⟨ret_bool (nil_dec t).symm, (Below.refl _ _).alloc (Nat.le_refl _) _⟩
theorem gn_2 (t : ByteArray) (n a : Int) (w : World) (hn : n = 0) (ht : t.size ≤ 1048576) :
    Calls Tryd.prog 46 #[.agg #[.int .i64 2, .string t, .int .i64 n, .int .i64 a]] w fun e w' => e = .returned (.bool ((L t).all inb)) ∧ Below w.heap.size w w' := by
  have hmf : ∀ (fn : Fn) (first cap : Array Value) (w : World), (Instr.makeFunc fn first cap).run Tryd.prog w = .ok (.func fn first cap) w := fun _ _ _ _ => rfl
  subst hn; go_enter Tryd.func46, Tryd.ntmps46; go_wp2_with (go_at_call 79; refine (all_inb _ t _ (by omega) (by go_simp)).mono ?_; rintro e w' ⟨rfl, rfl⟩); go_ret; exact ⟨rfl, (Below.refl _ _).alloc (Nat.le_refl _) _⟩
theorem gn_3 (t : ByteArray) (n a : Int) (w : World) (hn : n = 0) (ht : t.size ≤ 1048576) :
    Calls Tryd.prog 46 #[.agg #[.int .i64 3, .string t, .int .i64 n, .int .i64 a]] w fun e w' => e = .returned (.bool (wholeT (L t))) ∧ Below w.heap.size w w' := by
  have hmf : ∀ (fn : Fn) (first cap : Array Value) (w : World), (Instr.makeFunc fn first cap).run Tryd.prog w = .ok (.func fn first cap) w := fun _ _ _ _ => rfl
  subst hn; go_enter Tryd.func46, Tryd.ntmps46; go_wp2_with (go_at_call 80; refine (whole_any t _ (by omega)).mono ?_; rintro e w' ⟨rfl, rfl⟩); go_ret; exact ⟨rfl, (Below.refl _ _).alloc (Nat.le_refl _) _⟩
theorem gn_6 (t : ByteArray) (n a : Int) (w : World) (hn : n = 0) (ht : t.size ≤ 1048576) :
    Calls Tryd.prog 46 #[.agg #[.int .i64 6, .string t, .int .i64 n, .int .i64 a]] w fun e w' => e = .returned (.bool ((L t).all inq)) ∧ Below w.heap.size w w' := by
  have hmf : ∀ (fn : Fn) (first cap : Array Value) (w : World), (Instr.makeFunc fn first cap).run Tryd.prog w = .ok (.func fn first cap) w := fun _ _ _ _ => rfl
  subst hn; go_enter Tryd.func46, Tryd.ntmps46; go_wp2_with (go_at_call 79; refine (all_inq _ t _ (by omega) (by go_simp)).mono ?_; rintro e w' ⟨rfl, rfl⟩); go_ret; exact ⟨rfl, (Below.refl _ _).alloc (Nat.le_refl _) _⟩
theorem gn_5 (t : ByteArray) (n a : Int) (w : World) (hn : n = 0) (ht : t.size ≤ 1048576) :
    Calls Tryd.prog 46 #[.agg #[.int .i64 5, .string t, .int .i64 n, .int .i64 a]] w fun e w' => e = .returned (.bool (!t.toList.isEmpty && (L t).all bin)) ∧ Below w.heap.size w w' := by
  have hmf : ∀ (fn : Fn) (first cap : Array Value) (w : World), (Instr.makeFunc fn first cap).run Tryd.prog w = .ok (.func fn first cap) w := fun _ _ _ _ => rfl
  subst hn; cases he : t.toList.isEmpty
  all_goals
    go_enter Tryd.func46, Tryd.ntmps46; go_wp2_with (go_at_call 79; refine (all_bin _ t _ (by omega) (by go_simp)).mono ?_; rintro e w' ⟨rfl, rfl⟩); go_ret; exact ⟨by simp, (Below.refl _ _).alloc (Nat.le_refl _) _⟩
theorem gn_7 (t : ByteArray) (n a : Int) (w : World) (hn : n = 0) (ht : t.size ≤ 1048576) :
    Calls Tryd.prog 46 #[.agg #[.int .i64 7, .string t, .int .i64 n, .int .i64 a]] w fun e w' => e = .returned (.bool (!t.toList.isEmpty && (L t).all nm)) ∧ Below w.heap.size w w' := by
  have hmf : ∀ (fn : Fn) (first cap : Array Value) (w : World), (Instr.makeFunc fn first cap).run Tryd.prog w = .ok (.func fn first cap) w := fun _ _ _ _ => rfl
  subst hn; cases he : t.toList.isEmpty
  all_goals
    go_enter Tryd.func46, Tryd.ntmps46; go_wp2_with (go_at_call 79; refine (all_nm _ t _ (by omega) (by go_simp)).mono ?_; rintro e w' ⟨rfl, rfl⟩); go_ret; exact ⟨by simp, (Below.refl _ _).alloc (Nat.le_refl _) _⟩
theorem gn_bad (k : Int) (t : ByteArray) (n a : Int) (w : World) (hn : n < 0 ∨ (k ≠ 1 ∧ n ≠ 0)) (ht : t.size ≤ 1048576) :
    Calls Tryd.prog 46 #[.agg #[.int .i64 k, .string t, .int .i64 n, .int .i64 a]] w fun e w' => e = .returned (.bool false) ∧ Below w.heap.size w w' := by
  have hmf : ∀ (fn : Fn) (first cap : Array Value) (w : World), (Instr.makeFunc fn first cap).run Tryd.prog w = .ok (.func fn first cap) w := fun _ _ _ _ => rfl
  rcases (by omega : (k = 1 ∧ n < 0) ∨ (¬ k = 1 ∧ ¬ n = 0)) with ⟨h1, h2⟩ | ⟨h1, h2⟩
  · subst h1; go_enter Tryd.func46, Tryd.ntmps46; go_wp2; go_ret; exact ⟨rfl, (Below.refl _ _).alloc (Nat.le_refl _) _⟩
  · clear hn
    have h3 : (k != 1) = true := by simpa using h1
    have h4 : (n != 0) = true := by simpa using h2
    go_enter Tryd.func46, Tryd.ntmps46; go_wp2; go_ret; exact ⟨rfl, (Below.refl _ _).alloc (Nat.le_refl _) _⟩
theorem gn_other (k : Int) (t : ByteArray) (n a : Int) (w : World) (hn : n = 0) (h1 : ¬ k = 1) (h2 : ¬ k = 2) (h3 : ¬ k = 3) (h4 : ¬ k = 4) (h5 : ¬ k = 5) (h6 : ¬ k = 6) (h7 : ¬ k = 7) (ht : t.size ≤ 1048576) :
    Calls Tryd.prog 46 #[.agg #[.int .i64 k, .string t, .int .i64 n, .int .i64 a]] w fun e w' => e = .returned (.bool false) ∧ Below w.heap.size w w' := by
  have hmf : ∀ (fn : Fn) (first cap : Array Value) (w : World), (Instr.makeFunc fn first cap).run Tryd.prog w = .ok (.func fn first cap) w := fun _ _ _ _ => rfl
  subst hn
  have e1 : (k != 1) = true := by simpa using h1
  go_enter Tryd.func46, Tryd.ntmps46; go_wp2; go_ret; exact ⟨rfl, (Below.refl _ _).alloc (Nat.le_refl _) _⟩
theorem cut_small (l sep : List UInt8) : (Lib.cut l sep).1.length ≤ l.length ∧ (Lib.cut l sep).2.1.length ≤ l.length := by
  unfold Lib.cut
  split
  · exact ⟨List.length_take_le' .., by rw [List.length_drop]; omega⟩
  · exact ⟨Nat.le_refl _, Nat.zero_le _⟩
theorem mk_size (l : List UInt8) : (⟨l.toArray⟩ : ByteArray).size = l.length := by rw [← L_length, L_mk]
theorem gn_4 (t : ByteArray) (n a : Int) (w : World) (hn : n = 0) (ht : t.size ≤ 1048576) (hT : Tab w) :
    Calls Tryd.prog 46 #[.agg #[.int .i64 4, .string t, .int .i64 n, .int .i64 a]] w fun e w' => e = .returned (.bool (decT (L t))) ∧ Below w.heap.size w w' := by
  have hmf : ∀ (fn : Fn) (first cap : Array Value) (w : World), (Instr.makeFunc fn first cap).run Tryd.prog w = .ok (.func fn first cap) w := fun _ _ _ _ => rfl
  subst hn; have hlt0 := hT.lt; obtain ⟨m, hm⟩ := hT; have HM : Hid (w.cell? ⟨0, 0, none⟩ = some (.int .i64 m)) := hm; clear hm; obtain ⟨z1, z2⟩ := cut_small (L t) [46]; rw [L_length] at z1 z2; obtain ⟨x, y, hb, hcut⟩ : ∃ x y hb, Lib.cut (L t) [46] = (x, y, hb) := ⟨_, _, _, rfl⟩
  have HR : Hid (decT (L t) = (hb && wholeT x && decide (y ≠ []) && y.all dig)) := by show decT (L t) = _; unfold decT; rw [hcut]
  rw [hcut] at z1 z2; simp only at z1 z2
  have HC : Hid (∀ W, W.cell? ⟨0, 0, none⟩ = some (.int .i64 m) → Calls Tryd.prog 81 #[.string t, .string ⟨#[46]⟩] W fun e w' => e = .returned (.tuple #[.string ⟨x.toArray⟩, .string ⟨y.toArray⟩, .bool hb]) ∧ ∃ n, w' = W.drewN n) := fun W hW => by
    have := Tryd.strings_Cut t ⟨#[46]⟩ m W (by omega) hW; rw [show t.data.toList = L t from rfl, show (⟨#[46]⟩ : ByteArray).data.toList = [46] from rfl, hcut] at this; exact this
  clear hcut; obtain ⟨A, hA⟩ : ∃ A : ByteArray, (⟨x.toArray⟩ : ByteArray) = A := ⟨_, rfl⟩; obtain ⟨B, hB⟩ : ∃ B : ByteArray, (⟨y.toArray⟩ : ByteArray) = B := ⟨_, rfl⟩
  have sA : A.size ≤ 1048576 := by rw [← hA, mk_size]; omega
  have sB : B.size ≤ 1048576 := by rw [← hB, mk_size]; omega
  have lA : L A = x := by rw [← hA]; rfl
  have lB : L B = y := by rw [← hB]; rfl
  rw [hA, hB] at HC; rw [← lA, ← lB] at HR; clear hA hB lA lB z1 z2 x y
  have HW : Hid (∀ W, Calls Tryd.prog 80 #[.string A] W fun e w' => e = .returned (.bool (wholeT (L A))) ∧ W = w') := fun W => whole_any A W (by omega)
  have arm : ∀ cs T, (w.alloc (.cells cs T)).cell? ⟨0, 0, none⟩ = some (.int .i64 m) := fun cs T => (((Below.refl w.heap.size w).alloc (Nat.le_refl _) _).cell hlt0).trans HM.out
  have ARM : Hid (∀ cs T, (w.alloc (.cells cs T)).cell? ⟨0, 0, none⟩ = some (.int .i64 m)) := arm; clear arm
  cases hb with
  | false =>
    go_enter Tryd.func46, Tryd.ntmps46; go_wp2_with (go_at_call 81; refine (HC.out _ (ARM.out _ _)).mono ?_; rintro e w' ⟨rfl, nd, rfl⟩); go_ret; exact ⟨ret_bool (by rw [HR.out]; rfl), Z0 ((Below.refl _ _).alloc (Nat.le_refl _) _) _⟩
  | true =>
    rw [Bool.true_and] at HR
    cases hw : wholeT (L A) with
    | false =>
      rw [hw] at HW HR; clear hw; go_enter Tryd.func46, Tryd.ntmps46; go_wp2_with (first | (go_at_call 81; refine (HC.out _ (ARM.out _ _)).mono ?_; rintro e w' ⟨rfl, nd, rfl⟩) | (go_at_call 80; refine (HW.out _).mono ?_; rintro e w' ⟨rfl, rfl⟩)); go_ret; exact ⟨ret_bool (by rw [HR.out]; rfl), Z0 ((Below.refl _ _).alloc (Nat.le_refl _) _) _⟩
    | true =>
      rw [hw] at HW HR; rw [Bool.true_and] at HR; clear hw
      cases he : B.toList.isEmpty with
      | true =>
        have HB : Hid (L B = []) := by show L B = []; rw [← toList_L]; exact List.isEmpty_iff.1 he
        go_enter Tryd.func46, Tryd.ntmps46; go_wp2_with (first | (go_at_call 81; refine (HC.out _ (ARM.out _ _)).mono ?_; rintro e w' ⟨rfl, nd, rfl⟩) | (go_at_call 80; refine (HW.out _).mono ?_; rintro e w' ⟨rfl, rfl⟩)); go_ret; exact ⟨ret_bool (by rw [HR.out, HB.out]; rfl), Z0 ((Below.refl _ _).alloc (Nat.le_refl _) _) _⟩
      | false =>
        have HB : Hid (decT (L t) = (L B).all dig) := by
          show decT (L t) = (L B).all dig
          have hne : L B ≠ [] := fun h => by rw [toList_L, h] at he; exact absurd he (by decide)
          rw [HR.out, decide_eq_true hne, Bool.true_and]
        clear HR HM; go_enter Tryd.func46, Tryd.ntmps46; go_wp2_with (first | (go_at_call 81; refine (HC.out _ (ARM.out _ _)).mono ?_; rintro e w' ⟨rfl, nd, rfl⟩) | (go_at_call 80; refine (HW.out _).mono ?_; rintro e w' ⟨rfl, rfl⟩)); clear HC HW ARM; go_loop [63] (fun i => ∃ k : Nat, k ≤ B.size ∧ i = .int .i64 k ∧ Hid (((L B).take k).all dig = true)) (fun i => B.size - (intOf i).toNat)
        case atStart => exact ⟨0, Nat.zero_le _, rfl, by rfl⟩
        case round =>
          obtain ⟨k, hk, rfl, HA⟩ := hrel
          by_cases hlk : k < B.size
          · have hxk : ∀ h : k < B.size, ((B[k]'h).toNat : Int) = bt B k := ZH B k; obtain ⟨c0, c1⟩ := bt_range B k; obtain ⟨c, hc⟩ : ∃ c, bt B k = c := ⟨_, rfl⟩; have HC : Hid (((at_ B k).toNat : Int) = c) := (at_int B k hlk).symm.trans hc; rw [hc] at c0 c1 hxk; clear hc
            cases hv : digI c with
            | true =>
              have HV : Hid (dig (at_ B k) = true) := by show dig (at_ B k) = true; rw [← digI_of, HC.out]; exact hv
              have HF : Hid (∀ W, Calls Tryd.prog 74 #[.int .u8 c] W fun e w' => e = .returned (.bool true) ∧ W = w') := fun W => by have := digitB_any c W c0 c1; rw [hv] at this; exact this
              clear hv; go_wp2_with (go_at_call 74; refine (HF.out _).mono ?_; rintro e w' ⟨rfl, rfl⟩); go_round
              case rel => exact ⟨k + 1, by omega, by go_num, by show ((L B).take (k + 1)).all dig = true; rw [all_take dig B k hlk, HA.out, HV.out]; rfl⟩
              case measure => simp [intOf]; omega
            | false =>
              have HV : Hid (dig (at_ B k) = false) := by show dig (at_ B k) = false; rw [← digI_of, HC.out]; exact hv
              have HF : Hid (∀ W, Calls Tryd.prog 74 #[.int .u8 c] W fun e w' => e = .returned (.bool false) ∧ W = w') := fun W => by have := digitB_any c W c0 c1; rw [hv] at this; exact this
              clear hv; go_wp2_with (go_at_call 74; refine (HF.out _).mono ?_; rintro e w' ⟨rfl, rfl⟩); go_ret; exact ⟨ret_bool (by rw [HB.out]; exact (all_no hlk HV.out).symm), Z0 ((Below.refl _ _).alloc (Nat.le_refl _) _) _⟩
          · go_wp2; go_ret; exact ⟨ret_bool (by have := HA.out; rw [List.take_of_length_le (by rw [L_length]; omega)] at this; rw [HB.out, this]), Z0 ((Below.refl _ _).alloc (Nat.le_refl _) _) _⟩
theorem good_any (k : Int) (t : ByteArray) (n a : Int) (w : World) (ht : t.size ≤ 1048576) (hT : Tab w) :
    Calls Tryd.prog 46 #[.agg #[.int .i64 k, .string t, .int .i64 n, .int .i64 a]] w fun e w' => e = .returned (.bool (goodN ⟨k, L t, n⟩)) ∧ Below w.heap.size w w' := by
  have ne : decide (L t ≠ []) = !t.toList.isEmpty := by
    cases h : t.toList.isEmpty with
    | true => rw [decide_eq_false (fun h2 => h2 (by rw [← toList_L]; exact List.isEmpty_iff.1 h))]; rfl
    | false => rw [decide_eq_true (show L t ≠ [] from fun h2 => by rw [toList_L, h2] at h; exact absurd h (by decide))]; rfl
  by_cases hb : n < 0 ∨ (k ≠ 1 ∧ n ≠ 0)
  · have e : goodN ⟨k, L t, n⟩ = false := by
      unfold goodN; simp only
      rcases hb with h | ⟨h1, h2⟩
      · rw [decide_eq_false (by omega : ¬ 0 ≤ n), Bool.false_and, Bool.false_and]
      · rw [decide_eq_false h1, decide_eq_false h2]; simp
    rw [e]; exact gn_bad k t n a w hb ht
  · have h0 : 0 ≤ n := by omega
    have e : goodN ⟨k, L t, n⟩ = word k (L t) := by
      unfold goodN; simp only; rw [decide_eq_true h0, Bool.true_and]
      by_cases h1 : k = 1
      · rw [decide_eq_true h1]; rfl
      · rw [decide_eq_true (by omega : n = 0), Bool.or_true, Bool.true_and]
    rw [e]; unfold word
    by_cases h1 : k = 1
    · rw [if_pos h1]; subst h1; exact gn_1 t n a w h0 ht
    have hn : n = 0 := (by omega); rw [if_neg h1]
    by_cases h2 : k = 2
    · rw [if_pos h2]; subst h2; exact gn_2 t n a w hn ht
    rw [if_neg h2]
    by_cases h3 : k = 3
    · rw [if_pos h3]; subst h3; exact gn_3 t n a w hn ht
    rw [if_neg h3]
    by_cases h4 : k = 4
    · rw [if_pos h4]; subst h4; exact gn_4 t n a w hn ht hT
    rw [if_neg h4]
    by_cases h5 : k = 5
    · rw [if_pos h5, ne]; subst h5; exact gn_5 t n a w hn ht
    rw [if_neg h5]
    by_cases h6 : k = 6
    · rw [if_pos h6]; subst h6; exact gn_6 t n a w hn ht
    rw [if_neg h6]
    by_cases h7 : k = 7
    · rw [if_pos h7, ne]; subst h7; exact gn_7 t n a w hn ht
    rw [if_neg h7]; exact gn_other k t n a w hn h1 h2 h3 h4 h5 h6 h7 ht
end Go.Proofs.YtbeelgaganbblaaDoor.Gn
namespace Go.Proofs.YtbeelgaganbblaaDoor
open Go.RowKit Go.Proofs.YtbeelgaganbblaaDoorW.PrintWords Go.Proofs.YtbeelgaganbblaaDoor.By Go.Proofs.YtbeelgaganbblaaDoor.Tree Go.Proofs.YtbeelgaganbblaaDoor.Gn
set_option linter.unusedVariables false
def ZQ.f (a0_0 : Int) (a0_1 : ByteArray) (a0_2 : Int) (a0_3 : Int) : Option Bool := if a0_1.size ≤ 1048576 then some (goodN ⟨a0_0, L a0_1, a0_2⟩) else none
theorem ZQ.calls (a0_0 : Int) (a0_1 : ByteArray) (a0_2 : Int) (a0_3 : Int) (r : Bool) (w : World) (hT : Tab w) (h : ZQ.f a0_0 a0_1 a0_2 a0_3 = some r) :
    Calls Tryd.prog 46 #[.agg #[.int .i64 a0_0, .string a0_1, .int .i64 a0_2, .int .i64 a0_3]] w fun e w' => e = .returned (.bool r) ∧ Below w.heap.size w w' := by
  unfold ZQ.f at h
  split at h
  · rename_i hc
    rw [← Option.some.inj h]; exact good_any a0_0 a0_1 a0_2 a0_3 w hc hT
  · cases h
end Go.Proofs.YtbeelgaganbblaaDoor
