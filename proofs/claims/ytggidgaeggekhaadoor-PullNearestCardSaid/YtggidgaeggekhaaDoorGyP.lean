/-
  The ghost layer over this program: its types' facts.
  Conditions: none.
-/
import Derived.Test.YtggidgaeggekhaaDoorProg
import Derived.Test.YtggidgaeggekhaaDoorGyV
import Derived.WalkKit
namespace Go.Gy
open Go Go.RowKit
theorem follows : Proofs.Tryd.prog.follows .mixedOrders = true := by kernel_rfl
@[simp] theorem tz1 : tyZero Proofs.Tryd.prog 1 = some (.nilFunc) := tyZero_of Proofs.Tryd.zeroValue1
@[simp] theorem ts1 : tySize Proofs.Tryd.prog 1 = some 1 := tySize_of Proofs.Tryd.sizeOf1
@[simp] theorem lb1 : ∀ c off, loadB Proofs.Tryd.prog 1 c off = selB c[off]? := loadB_one (tyAgg_of Proofs.Tryd.isAgg1)
@[simp] theorem tz2 : tyZero Proofs.Tryd.prog 2 = some (.int .i64 0) := tyZero_of Proofs.Tryd.zeroValue2
@[simp] theorem ts2 : tySize Proofs.Tryd.prog 2 = some 1 := tySize_of Proofs.Tryd.sizeOf2
@[simp] theorem lb2 : ∀ c off, loadB Proofs.Tryd.prog 2 c off = selB c[off]? := loadB_one (tyAgg_of Proofs.Tryd.isAgg2)
@[simp] theorem un2 : Proofs.Tryd.prog.underlying 2 = some (.int .i64) := Proofs.Tryd.underlying2
@[simp] theorem tz3 : tyZero Proofs.Tryd.prog 3 = some (.int .i64 0) := tyZero_of Proofs.Tryd.zeroValue3
@[simp] theorem ts3 : tySize Proofs.Tryd.prog 3 = some 1 := tySize_of Proofs.Tryd.sizeOf3
@[simp] theorem lb3 : ∀ c off, loadB Proofs.Tryd.prog 3 c off = selB c[off]? := loadB_one (tyAgg_of Proofs.Tryd.isAgg3)
@[simp] theorem un3 : Proofs.Tryd.prog.underlying 3 = some (.int .i64) := Proofs.Tryd.underlying3
@[simp] theorem tz4 : tyZero Proofs.Tryd.prog 4 = some (.bool false) := tyZero_of Proofs.Tryd.zeroValue4
@[simp] theorem ts4 : tySize Proofs.Tryd.prog 4 = some 1 := tySize_of Proofs.Tryd.sizeOf4
@[simp] theorem lb4 : ∀ c off, loadB Proofs.Tryd.prog 4 c off = selB c[off]? := loadB_one (tyAgg_of Proofs.Tryd.isAgg4)
@[simp] theorem bo4 : boolT Proofs.Tryd.prog 4 = true := boolT_of Proofs.Tryd.underlying4
@[simp] theorem un4 : Proofs.Tryd.prog.underlying 4 = some (.bool) := Proofs.Tryd.underlying4
@[simp] theorem tz5 : tyZero Proofs.Tryd.prog 5 = some (.int .u8 0) := tyZero_of Proofs.Tryd.zeroValue5
@[simp] theorem ts5 : tySize Proofs.Tryd.prog 5 = some 1 := tySize_of Proofs.Tryd.sizeOf5
@[simp] theorem lb5 : ∀ c off, loadB Proofs.Tryd.prog 5 c off = selB c[off]? := loadB_one (tyAgg_of Proofs.Tryd.isAgg5)
@[simp] theorem un5 : Proofs.Tryd.prog.underlying 5 = some (.int .u8) := Proofs.Tryd.underlying5
@[simp] theorem tz6 : tyZero Proofs.Tryd.prog 6 = some (.int .u8 0) := tyZero_of Proofs.Tryd.zeroValue6
@[simp] theorem ts6 : tySize Proofs.Tryd.prog 6 = some 1 := tySize_of Proofs.Tryd.sizeOf6
@[simp] theorem lb6 : ∀ c off, loadB Proofs.Tryd.prog 6 c off = selB c[off]? := loadB_one (tyAgg_of Proofs.Tryd.isAgg6)
@[simp] theorem un6 : Proofs.Tryd.prog.underlying 6 = some (.int .u8) := Proofs.Tryd.underlying6
@[simp] theorem tz7 : tyZero Proofs.Tryd.prog 7 = some (.agg #[.int .i64 0, .int .i64 0, .bool false, .int .u8 0]) := tyZero_of Proofs.Tryd.zeroValue7
@[simp] theorem ts7 : tySize Proofs.Tryd.prog 7 = some 4 := tySize_of Proofs.Tryd.sizeOf7
@[simp] theorem lb7 : ∀ c off, loadB Proofs.Tryd.prog 7 c off = if off + 4 ≤ c.size then some (.agg (c.extract off (off + 4))) else none := loadB_agg (tyAgg_of Proofs.Tryd.isAgg7) ts7
@[simp] theorem fd7_0 : fdX Proofs.Tryd.prog 7 0 = some (2, 0) := by simp only [fdX, Proofs.Tryd.underlying7, tySize_of Proofs.Tryd.sizeOf2]; kernel_rfl
@[simp] theorem fd7_1 : fdX Proofs.Tryd.prog 7 1 = some (3, 1) := by simp only [fdX, Proofs.Tryd.underlying7, tySize_of Proofs.Tryd.sizeOf3]; kernel_rfl
@[simp] theorem fd7_2 : fdX Proofs.Tryd.prog 7 2 = some (4, 2) := by simp only [fdX, Proofs.Tryd.underlying7, tySize_of Proofs.Tryd.sizeOf4]; kernel_rfl
@[simp] theorem fd7_3 : fdX Proofs.Tryd.prog 7 3 = some (6, 3) := by simp only [fdX, Proofs.Tryd.underlying7, tySize_of Proofs.Tryd.sizeOf6]; kernel_rfl
@[simp] theorem pl7 : placesOf Proofs.Tryd.prog 7 = some (.inl [(0, 1), (1, 1), (2, 1), (3, 1)]) := by simp only [placesOf, Proofs.Tryd.underlying7]; kernel_rfl
@[simp] theorem tz8 : tyZero Proofs.Tryd.prog 8 = some (.agg #[.int .i64 0, .int .i64 0, .bool false, .int .u8 0]) := tyZero_of Proofs.Tryd.zeroValue8
@[simp] theorem ts8 : tySize Proofs.Tryd.prog 8 = some 4 := tySize_of Proofs.Tryd.sizeOf8
@[simp] theorem lb8 : ∀ c off, loadB Proofs.Tryd.prog 8 c off = if off + 4 ≤ c.size then some (.agg (c.extract off (off + 4))) else none := loadB_agg (tyAgg_of Proofs.Tryd.isAgg8) ts8
@[simp] theorem fd8_0 : fdX Proofs.Tryd.prog 8 0 = some (2, 0) := by simp only [fdX, Proofs.Tryd.underlying8, tySize_of Proofs.Tryd.sizeOf2]; kernel_rfl
@[simp] theorem fd8_1 : fdX Proofs.Tryd.prog 8 1 = some (3, 1) := by simp only [fdX, Proofs.Tryd.underlying8, tySize_of Proofs.Tryd.sizeOf3]; kernel_rfl
@[simp] theorem fd8_2 : fdX Proofs.Tryd.prog 8 2 = some (4, 2) := by simp only [fdX, Proofs.Tryd.underlying8, tySize_of Proofs.Tryd.sizeOf4]; kernel_rfl
@[simp] theorem fd8_3 : fdX Proofs.Tryd.prog 8 3 = some (6, 3) := by simp only [fdX, Proofs.Tryd.underlying8, tySize_of Proofs.Tryd.sizeOf6]; kernel_rfl
@[simp] theorem pl8 : placesOf Proofs.Tryd.prog 8 = some (.inl [(0, 1), (1, 1), (2, 1), (3, 1)]) := by simp only [placesOf, Proofs.Tryd.underlying8]; kernel_rfl
@[simp] theorem tz9 : tyZero Proofs.Tryd.prog 9 = some (.string { data := #[] }) := tyZero_of Proofs.Tryd.zeroValue9
@[simp] theorem ts9 : tySize Proofs.Tryd.prog 9 = some 1 := tySize_of Proofs.Tryd.sizeOf9
@[simp] theorem lb9 : ∀ c off, loadB Proofs.Tryd.prog 9 c off = selB c[off]? := loadB_one (tyAgg_of Proofs.Tryd.isAgg9)
@[simp] theorem un9 : Proofs.Tryd.prog.underlying 9 = some (.string) := Proofs.Tryd.underlying9
@[simp] theorem tz10 : tyZero Proofs.Tryd.prog 10 = some (.string { data := #[] }) := tyZero_of Proofs.Tryd.zeroValue10
@[simp] theorem ts10 : tySize Proofs.Tryd.prog 10 = some 1 := tySize_of Proofs.Tryd.sizeOf10
@[simp] theorem lb10 : ∀ c off, loadB Proofs.Tryd.prog 10 c off = selB c[off]? := loadB_one (tyAgg_of Proofs.Tryd.isAgg10)
@[simp] theorem un10 : Proofs.Tryd.prog.underlying 10 = some (.string) := Proofs.Tryd.underlying10
@[simp] theorem tz11 : tyZero Proofs.Tryd.prog 11 = some (.string { data := #[] }) := tyZero_of Proofs.Tryd.zeroValue11
@[simp] theorem ts11 : tySize Proofs.Tryd.prog 11 = some 1 := tySize_of Proofs.Tryd.sizeOf11
@[simp] theorem lb11 : ∀ c off, loadB Proofs.Tryd.prog 11 c off = selB c[off]? := loadB_one (tyAgg_of Proofs.Tryd.isAgg11)
@[simp] theorem un11 : Proofs.Tryd.prog.underlying 11 = some (.string) := Proofs.Tryd.underlying11
@[simp] theorem tz12 : tyZero Proofs.Tryd.prog 12 = some (.int .u64 0) := tyZero_of Proofs.Tryd.zeroValue12
@[simp] theorem ts12 : tySize Proofs.Tryd.prog 12 = some 1 := tySize_of Proofs.Tryd.sizeOf12
@[simp] theorem lb12 : ∀ c off, loadB Proofs.Tryd.prog 12 c off = selB c[off]? := loadB_one (tyAgg_of Proofs.Tryd.isAgg12)
@[simp] theorem un12 : Proofs.Tryd.prog.underlying 12 = some (.int .u64) := Proofs.Tryd.underlying12
@[simp] theorem tz13 : tyZero Proofs.Tryd.prog 13 = some (.agg #[.string { data := #[] }, .int .u64 0]) := tyZero_of Proofs.Tryd.zeroValue13
@[simp] theorem ts13 : tySize Proofs.Tryd.prog 13 = some 2 := tySize_of Proofs.Tryd.sizeOf13
@[simp] theorem lb13 : ∀ c off, loadB Proofs.Tryd.prog 13 c off = if off + 2 ≤ c.size then some (.agg (c.extract off (off + 2))) else none := loadB_agg (tyAgg_of Proofs.Tryd.isAgg13) ts13
@[simp] theorem fd13_0 : fdX Proofs.Tryd.prog 13 0 = some (9, 0) := by simp only [fdX, Proofs.Tryd.underlying13, tySize_of Proofs.Tryd.sizeOf9]; kernel_rfl
@[simp] theorem fd13_1 : fdX Proofs.Tryd.prog 13 1 = some (12, 1) := by simp only [fdX, Proofs.Tryd.underlying13, tySize_of Proofs.Tryd.sizeOf12]; kernel_rfl
@[simp] theorem pl13 : placesOf Proofs.Tryd.prog 13 = some (.inl [(0, 1), (1, 1)]) := by simp only [placesOf, Proofs.Tryd.underlying13]; kernel_rfl
@[simp] theorem tz14 : tyZero Proofs.Tryd.prog 14 = some (.agg #[.string { data := #[] }, .int .u64 0]) := tyZero_of Proofs.Tryd.zeroValue14
@[simp] theorem ts14 : tySize Proofs.Tryd.prog 14 = some 2 := tySize_of Proofs.Tryd.sizeOf14
@[simp] theorem lb14 : ∀ c off, loadB Proofs.Tryd.prog 14 c off = if off + 2 ≤ c.size then some (.agg (c.extract off (off + 2))) else none := loadB_agg (tyAgg_of Proofs.Tryd.isAgg14) ts14
@[simp] theorem fd14_0 : fdX Proofs.Tryd.prog 14 0 = some (9, 0) := by simp only [fdX, Proofs.Tryd.underlying14, tySize_of Proofs.Tryd.sizeOf9]; kernel_rfl
@[simp] theorem fd14_1 : fdX Proofs.Tryd.prog 14 1 = some (12, 1) := by simp only [fdX, Proofs.Tryd.underlying14, tySize_of Proofs.Tryd.sizeOf12]; kernel_rfl
@[simp] theorem pl14 : placesOf Proofs.Tryd.prog 14 = some (.inl [(0, 1), (1, 1)]) := by simp only [placesOf, Proofs.Tryd.underlying14]; kernel_rfl
@[simp] theorem tz15 : tyZero Proofs.Tryd.prog 15 = some (.pointer none) := tyZero_of Proofs.Tryd.zeroValue15
@[simp] theorem ts15 : tySize Proofs.Tryd.prog 15 = some 1 := tySize_of Proofs.Tryd.sizeOf15
@[simp] theorem lb15 : ∀ c off, loadB Proofs.Tryd.prog 15 c off = selB c[off]? := loadB_one (tyAgg_of Proofs.Tryd.isAgg15)
@[simp] theorem tz16 : tyZero Proofs.Tryd.prog 16 = some (.pointer none) := tyZero_of Proofs.Tryd.zeroValue16
@[simp] theorem ts16 : tySize Proofs.Tryd.prog 16 = some 1 := tySize_of Proofs.Tryd.sizeOf16
@[simp] theorem lb16 : ∀ c off, loadB Proofs.Tryd.prog 16 c off = selB c[off]? := loadB_one (tyAgg_of Proofs.Tryd.isAgg16)
@[simp] theorem tz17 : tyZero Proofs.Tryd.prog 17 = some (.pointer none) := tyZero_of Proofs.Tryd.zeroValue17
@[simp] theorem ts17 : tySize Proofs.Tryd.prog 17 = some 1 := tySize_of Proofs.Tryd.sizeOf17
@[simp] theorem lb17 : ∀ c off, loadB Proofs.Tryd.prog 17 c off = selB c[off]? := loadB_one (tyAgg_of Proofs.Tryd.isAgg17)
@[simp] theorem tz18 : tyZero Proofs.Tryd.prog 18 = some (.agg #[.pointer none]) := tyZero_of Proofs.Tryd.zeroValue18
@[simp] theorem ts18 : tySize Proofs.Tryd.prog 18 = some 1 := tySize_of Proofs.Tryd.sizeOf18
@[simp] theorem lb18 : ∀ c off, loadB Proofs.Tryd.prog 18 c off = if off + 1 ≤ c.size then some (.agg (c.extract off (off + 1))) else none := loadB_agg (tyAgg_of Proofs.Tryd.isAgg18) ts18
@[simp] theorem fd18_0 : fdX Proofs.Tryd.prog 18 0 = some (17, 0) := by simp only [fdX, Proofs.Tryd.underlying18, tySize_of Proofs.Tryd.sizeOf17]; kernel_rfl
@[simp] theorem pl18 : placesOf Proofs.Tryd.prog 18 = some (.inl [(0, 1)]) := by simp only [placesOf, Proofs.Tryd.underlying18]; kernel_rfl
@[simp] theorem tz19 : tyZero Proofs.Tryd.prog 19 = some (.agg #[.pointer none]) := tyZero_of Proofs.Tryd.zeroValue19
@[simp] theorem ts19 : tySize Proofs.Tryd.prog 19 = some 1 := tySize_of Proofs.Tryd.sizeOf19
@[simp] theorem lb19 : ∀ c off, loadB Proofs.Tryd.prog 19 c off = if off + 1 ≤ c.size then some (.agg (c.extract off (off + 1))) else none := loadB_agg (tyAgg_of Proofs.Tryd.isAgg19) ts19
@[simp] theorem fd19_0 : fdX Proofs.Tryd.prog 19 0 = some (17, 0) := by simp only [fdX, Proofs.Tryd.underlying19, tySize_of Proofs.Tryd.sizeOf17]; kernel_rfl
@[simp] theorem pl19 : placesOf Proofs.Tryd.prog 19 = some (.inl [(0, 1)]) := by simp only [placesOf, Proofs.Tryd.underlying19]; kernel_rfl
@[simp] theorem tz20 : tyZero Proofs.Tryd.prog 20 = some (.nilIface) := tyZero_of Proofs.Tryd.zeroValue20
@[simp] theorem ts20 : tySize Proofs.Tryd.prog 20 = some 1 := tySize_of Proofs.Tryd.sizeOf20
@[simp] theorem lb20 : ∀ c off, loadB Proofs.Tryd.prog 20 c off = selB c[off]? := loadB_one (tyAgg_of Proofs.Tryd.isAgg20)
@[simp] theorem tz21 : tyZero Proofs.Tryd.prog 21 = some (.int .i32 0) := tyZero_of Proofs.Tryd.zeroValue21
@[simp] theorem ts21 : tySize Proofs.Tryd.prog 21 = some 1 := tySize_of Proofs.Tryd.sizeOf21
@[simp] theorem lb21 : ∀ c off, loadB Proofs.Tryd.prog 21 c off = selB c[off]? := loadB_one (tyAgg_of Proofs.Tryd.isAgg21)
@[simp] theorem un21 : Proofs.Tryd.prog.underlying 21 = some (.int .i32) := Proofs.Tryd.underlying21
@[simp] theorem tz22 : tyZero Proofs.Tryd.prog 22 = some (.int .u64 0) := tyZero_of Proofs.Tryd.zeroValue22
@[simp] theorem ts22 : tySize Proofs.Tryd.prog 22 = some 1 := tySize_of Proofs.Tryd.sizeOf22
@[simp] theorem lb22 : ∀ c off, loadB Proofs.Tryd.prog 22 c off = selB c[off]? := loadB_one (tyAgg_of Proofs.Tryd.isAgg22)
@[simp] theorem un22 : Proofs.Tryd.prog.underlying 22 = some (.int .u64) := Proofs.Tryd.underlying22
@[simp] theorem tz23 : tyZero Proofs.Tryd.prog 23 = some (.agg #[.int .u64 0, .int .u64 0, .int .u64 0, .int .u64 0]) := tyZero_of Proofs.Tryd.zeroValue23
@[simp] theorem ts23 : tySize Proofs.Tryd.prog 23 = some 4 := tySize_of Proofs.Tryd.sizeOf23
@[simp] theorem lb23 : ∀ c off, loadB Proofs.Tryd.prog 23 c off = if off + 4 ≤ c.size then some (.agg (c.extract off (off + 4))) else none := loadB_agg (tyAgg_of Proofs.Tryd.isAgg23) ts23
@[simp] theorem pl23 : placesOf Proofs.Tryd.prog 23 = some (.inr 1) := placesOf_arr Proofs.Tryd.underlying23 (tySize_of Proofs.Tryd.sizeOf22)
@[simp] theorem un23 : Proofs.Tryd.prog.underlying 23 = some (.array 4 22) := Proofs.Tryd.underlying23
@[simp] theorem ar23 : arrT Proofs.Tryd.prog 23 = some 4 := arrT_of Proofs.Tryd.underlying23 Proofs.Tryd.underlying22 (tySize_of Proofs.Tryd.sizeOf22) Proofs.Tryd.eqGuardType23
@[simp] theorem tz24 : tyZero Proofs.Tryd.prog 24 = some (.agg #[.int .u64 0, .int .u64 0, .int .u64 0, .int .u64 0]) := tyZero_of Proofs.Tryd.zeroValue24
@[simp] theorem ts24 : tySize Proofs.Tryd.prog 24 = some 4 := tySize_of Proofs.Tryd.sizeOf24
@[simp] theorem lb24 : ∀ c off, loadB Proofs.Tryd.prog 24 c off = if off + 4 ≤ c.size then some (.agg (c.extract off (off + 4))) else none := loadB_agg (tyAgg_of Proofs.Tryd.isAgg24) ts24
@[simp] theorem pl24 : placesOf Proofs.Tryd.prog 24 = some (.inr 1) := placesOf_arr Proofs.Tryd.underlying24 (tySize_of Proofs.Tryd.sizeOf22)
@[simp] theorem un24 : Proofs.Tryd.prog.underlying 24 = some (.array 4 22) := Proofs.Tryd.underlying24
@[simp] theorem ar24 : arrT Proofs.Tryd.prog 24 = some 4 := arrT_of Proofs.Tryd.underlying24 Proofs.Tryd.underlying22 (tySize_of Proofs.Tryd.sizeOf22) Proofs.Tryd.eqGuardType24
@[simp] theorem tz25 : tyZero Proofs.Tryd.prog 25 = some (.int .i64 0) := tyZero_of Proofs.Tryd.zeroValue25
@[simp] theorem ts25 : tySize Proofs.Tryd.prog 25 = some 1 := tySize_of Proofs.Tryd.sizeOf25
@[simp] theorem lb25 : ∀ c off, loadB Proofs.Tryd.prog 25 c off = selB c[off]? := loadB_one (tyAgg_of Proofs.Tryd.isAgg25)
@[simp] theorem un25 : Proofs.Tryd.prog.underlying 25 = some (.int .i64) := Proofs.Tryd.underlying25
@[simp] theorem tz27 : tyZero Proofs.Tryd.prog 27 = some (.nilFunc) := tyZero_of Proofs.Tryd.zeroValue27
@[simp] theorem ts27 : tySize Proofs.Tryd.prog 27 = some 1 := tySize_of Proofs.Tryd.sizeOf27
@[simp] theorem lb27 : ∀ c off, loadB Proofs.Tryd.prog 27 c off = selB c[off]? := loadB_one (tyAgg_of Proofs.Tryd.isAgg27)
@[simp] theorem tz28 : tyZero Proofs.Tryd.prog 28 = some (.nilFunc) := tyZero_of Proofs.Tryd.zeroValue28
@[simp] theorem ts28 : tySize Proofs.Tryd.prog 28 = some 1 := tySize_of Proofs.Tryd.sizeOf28
@[simp] theorem lb28 : ∀ c off, loadB Proofs.Tryd.prog 28 c off = selB c[off]? := loadB_one (tyAgg_of Proofs.Tryd.isAgg28)
@[simp] theorem tz30 : tyZero Proofs.Tryd.prog 30 = some (.nilFunc) := tyZero_of Proofs.Tryd.zeroValue30
@[simp] theorem ts30 : tySize Proofs.Tryd.prog 30 = some 1 := tySize_of Proofs.Tryd.sizeOf30
@[simp] theorem lb30 : ∀ c off, loadB Proofs.Tryd.prog 30 c off = selB c[off]? := loadB_one (tyAgg_of Proofs.Tryd.isAgg30)
@[simp] theorem tz31 : tyZero Proofs.Tryd.prog 31 = some (.nilFunc) := tyZero_of Proofs.Tryd.zeroValue31
@[simp] theorem ts31 : tySize Proofs.Tryd.prog 31 = some 1 := tySize_of Proofs.Tryd.sizeOf31
@[simp] theorem lb31 : ∀ c off, loadB Proofs.Tryd.prog 31 c off = selB c[off]? := loadB_one (tyAgg_of Proofs.Tryd.isAgg31)
@[simp] theorem tz32 : tyZero Proofs.Tryd.prog 32 = some (.nilFunc) := tyZero_of Proofs.Tryd.zeroValue32
@[simp] theorem ts32 : tySize Proofs.Tryd.prog 32 = some 1 := tySize_of Proofs.Tryd.sizeOf32
@[simp] theorem lb32 : ∀ c off, loadB Proofs.Tryd.prog 32 c off = selB c[off]? := loadB_one (tyAgg_of Proofs.Tryd.isAgg32)
@[simp] theorem tz33 : tyZero Proofs.Tryd.prog 33 = some (.nilFunc) := tyZero_of Proofs.Tryd.zeroValue33
@[simp] theorem ts33 : tySize Proofs.Tryd.prog 33 = some 1 := tySize_of Proofs.Tryd.sizeOf33
@[simp] theorem lb33 : ∀ c off, loadB Proofs.Tryd.prog 33 c off = selB c[off]? := loadB_one (tyAgg_of Proofs.Tryd.isAgg33)
@[simp] theorem tz34 : tyZero Proofs.Tryd.prog 34 = some (.nilFunc) := tyZero_of Proofs.Tryd.zeroValue34
@[simp] theorem ts34 : tySize Proofs.Tryd.prog 34 = some 1 := tySize_of Proofs.Tryd.sizeOf34
@[simp] theorem lb34 : ∀ c off, loadB Proofs.Tryd.prog 34 c off = selB c[off]? := loadB_one (tyAgg_of Proofs.Tryd.isAgg34)
@[simp] theorem tz36 : tyZero Proofs.Tryd.prog 36 = some (.nilFunc) := tyZero_of Proofs.Tryd.zeroValue36
@[simp] theorem ts36 : tySize Proofs.Tryd.prog 36 = some 1 := tySize_of Proofs.Tryd.sizeOf36
@[simp] theorem lb36 : ∀ c off, loadB Proofs.Tryd.prog 36 c off = selB c[off]? := loadB_one (tyAgg_of Proofs.Tryd.isAgg36)
@[simp] theorem tz37 : tyZero Proofs.Tryd.prog 37 = some (.nilFunc) := tyZero_of Proofs.Tryd.zeroValue37
@[simp] theorem ts37 : tySize Proofs.Tryd.prog 37 = some 1 := tySize_of Proofs.Tryd.sizeOf37
@[simp] theorem lb37 : ∀ c off, loadB Proofs.Tryd.prog 37 c off = selB c[off]? := loadB_one (tyAgg_of Proofs.Tryd.isAgg37)
@[simp] theorem tz38 : tyZero Proofs.Tryd.prog 38 = some (.nilFunc) := tyZero_of Proofs.Tryd.zeroValue38
@[simp] theorem ts38 : tySize Proofs.Tryd.prog 38 = some 1 := tySize_of Proofs.Tryd.sizeOf38
@[simp] theorem lb38 : ∀ c off, loadB Proofs.Tryd.prog 38 c off = selB c[off]? := loadB_one (tyAgg_of Proofs.Tryd.isAgg38)
@[simp] theorem tz39 : tyZero Proofs.Tryd.prog 39 = some (.nilFunc) := tyZero_of Proofs.Tryd.zeroValue39
@[simp] theorem ts39 : tySize Proofs.Tryd.prog 39 = some 1 := tySize_of Proofs.Tryd.sizeOf39
@[simp] theorem lb39 : ∀ c off, loadB Proofs.Tryd.prog 39 c off = selB c[off]? := loadB_one (tyAgg_of Proofs.Tryd.isAgg39)
@[simp] theorem tz40 : tyZero Proofs.Tryd.prog 40 = some (.agg #[.int .i64 0, .int .i64 0, .int .i64 0]) := tyZero_of Proofs.Tryd.zeroValue40
@[simp] theorem ts40 : tySize Proofs.Tryd.prog 40 = some 3 := tySize_of Proofs.Tryd.sizeOf40
@[simp] theorem lb40 : ∀ c off, loadB Proofs.Tryd.prog 40 c off = if off + 3 ≤ c.size then some (.agg (c.extract off (off + 3))) else none := loadB_agg (tyAgg_of Proofs.Tryd.isAgg40) ts40
@[simp] theorem pl40 : placesOf Proofs.Tryd.prog 40 = some (.inr 1) := placesOf_arr Proofs.Tryd.underlying40 (tySize_of Proofs.Tryd.sizeOf3)
@[simp] theorem un40 : Proofs.Tryd.prog.underlying 40 = some (.array 3 3) := Proofs.Tryd.underlying40
@[simp] theorem ar40 : arrT Proofs.Tryd.prog 40 = some 3 := arrT_of Proofs.Tryd.underlying40 Proofs.Tryd.underlying3 (tySize_of Proofs.Tryd.sizeOf3) Proofs.Tryd.eqGuardType40
@[simp] theorem tz41 : tyZero Proofs.Tryd.prog 41 = some (.agg #[.int .i64 0, .int .i64 0, .int .i64 0]) := tyZero_of Proofs.Tryd.zeroValue41
@[simp] theorem ts41 : tySize Proofs.Tryd.prog 41 = some 3 := tySize_of Proofs.Tryd.sizeOf41
@[simp] theorem lb41 : ∀ c off, loadB Proofs.Tryd.prog 41 c off = if off + 3 ≤ c.size then some (.agg (c.extract off (off + 3))) else none := loadB_agg (tyAgg_of Proofs.Tryd.isAgg41) ts41
@[simp] theorem pl41 : placesOf Proofs.Tryd.prog 41 = some (.inr 1) := placesOf_arr Proofs.Tryd.underlying41 (tySize_of Proofs.Tryd.sizeOf3)
@[simp] theorem un41 : Proofs.Tryd.prog.underlying 41 = some (.array 3 3) := Proofs.Tryd.underlying41
@[simp] theorem ar41 : arrT Proofs.Tryd.prog 41 = some 3 := arrT_of Proofs.Tryd.underlying41 Proofs.Tryd.underlying3 (tySize_of Proofs.Tryd.sizeOf3) Proofs.Tryd.eqGuardType41
@[simp] theorem tz42 : tyZero Proofs.Tryd.prog 42 = some (.nilFunc) := tyZero_of Proofs.Tryd.zeroValue42
@[simp] theorem ts42 : tySize Proofs.Tryd.prog 42 = some 1 := tySize_of Proofs.Tryd.sizeOf42
@[simp] theorem lb42 : ∀ c off, loadB Proofs.Tryd.prog 42 c off = selB c[off]? := loadB_one (tyAgg_of Proofs.Tryd.isAgg42)
@[simp] theorem tz44 : tyZero Proofs.Tryd.prog 44 = some (.nilFunc) := tyZero_of Proofs.Tryd.zeroValue44
@[simp] theorem ts44 : tySize Proofs.Tryd.prog 44 = some 1 := tySize_of Proofs.Tryd.sizeOf44
@[simp] theorem lb44 : ∀ c off, loadB Proofs.Tryd.prog 44 c off = selB c[off]? := loadB_one (tyAgg_of Proofs.Tryd.isAgg44)
@[simp] theorem tz45 : tyZero Proofs.Tryd.prog 45 = some (.nilFunc) := tyZero_of Proofs.Tryd.zeroValue45
@[simp] theorem ts45 : tySize Proofs.Tryd.prog 45 = some 1 := tySize_of Proofs.Tryd.sizeOf45
@[simp] theorem lb45 : ∀ c off, loadB Proofs.Tryd.prog 45 c off = selB c[off]? := loadB_one (tyAgg_of Proofs.Tryd.isAgg45)
@[simp] theorem tz46 : tyZero Proofs.Tryd.prog 46 = some (.nilFunc) := tyZero_of Proofs.Tryd.zeroValue46
@[simp] theorem ts46 : tySize Proofs.Tryd.prog 46 = some 1 := tySize_of Proofs.Tryd.sizeOf46
@[simp] theorem lb46 : ∀ c off, loadB Proofs.Tryd.prog 46 c off = selB c[off]? := loadB_one (tyAgg_of Proofs.Tryd.isAgg46)
@[simp] theorem tz47 : tyZero Proofs.Tryd.prog 47 = some (.nilFunc) := tyZero_of Proofs.Tryd.zeroValue47
@[simp] theorem ts47 : tySize Proofs.Tryd.prog 47 = some 1 := tySize_of Proofs.Tryd.sizeOf47
@[simp] theorem lb47 : ∀ c off, loadB Proofs.Tryd.prog 47 c off = selB c[off]? := loadB_one (tyAgg_of Proofs.Tryd.isAgg47)
@[simp] theorem tz48 : tyZero Proofs.Tryd.prog 48 = some (.nilFunc) := tyZero_of Proofs.Tryd.zeroValue48
@[simp] theorem ts48 : tySize Proofs.Tryd.prog 48 = some 1 := tySize_of Proofs.Tryd.sizeOf48
@[simp] theorem lb48 : ∀ c off, loadB Proofs.Tryd.prog 48 c off = selB c[off]? := loadB_one (tyAgg_of Proofs.Tryd.isAgg48)
@[simp] theorem tz49 : tyZero Proofs.Tryd.prog 49 = some (.nilFunc) := tyZero_of Proofs.Tryd.zeroValue49
@[simp] theorem ts49 : tySize Proofs.Tryd.prog 49 = some 1 := tySize_of Proofs.Tryd.sizeOf49
@[simp] theorem lb49 : ∀ c off, loadB Proofs.Tryd.prog 49 c off = selB c[off]? := loadB_one (tyAgg_of Proofs.Tryd.isAgg49)
@[simp] theorem tz50 : tyZero Proofs.Tryd.prog 50 = some (.nilFunc) := tyZero_of Proofs.Tryd.zeroValue50
@[simp] theorem ts50 : tySize Proofs.Tryd.prog 50 = some 1 := tySize_of Proofs.Tryd.sizeOf50
@[simp] theorem lb50 : ∀ c off, loadB Proofs.Tryd.prog 50 c off = selB c[off]? := loadB_one (tyAgg_of Proofs.Tryd.isAgg50)
@[simp] theorem tz51 : tyZero Proofs.Tryd.prog 51 = some (.nilFunc) := tyZero_of Proofs.Tryd.zeroValue51
@[simp] theorem ts51 : tySize Proofs.Tryd.prog 51 = some 1 := tySize_of Proofs.Tryd.sizeOf51
@[simp] theorem lb51 : ∀ c off, loadB Proofs.Tryd.prog 51 c off = selB c[off]? := loadB_one (tyAgg_of Proofs.Tryd.isAgg51)
@[simp] theorem tz52 : tyZero Proofs.Tryd.prog 52 = some (.nilFunc) := tyZero_of Proofs.Tryd.zeroValue52
@[simp] theorem ts52 : tySize Proofs.Tryd.prog 52 = some 1 := tySize_of Proofs.Tryd.sizeOf52
@[simp] theorem lb52 : ∀ c off, loadB Proofs.Tryd.prog 52 c off = selB c[off]? := loadB_one (tyAgg_of Proofs.Tryd.isAgg52)
@[simp] theorem tz53 : tyZero Proofs.Tryd.prog 53 = some (.nilFunc) := tyZero_of Proofs.Tryd.zeroValue53
@[simp] theorem ts53 : tySize Proofs.Tryd.prog 53 = some 1 := tySize_of Proofs.Tryd.sizeOf53
@[simp] theorem lb53 : ∀ c off, loadB Proofs.Tryd.prog 53 c off = selB c[off]? := loadB_one (tyAgg_of Proofs.Tryd.isAgg53)
@[simp] theorem tz54 : tyZero Proofs.Tryd.prog 54 = some (.nilFunc) := tyZero_of Proofs.Tryd.zeroValue54
@[simp] theorem ts54 : tySize Proofs.Tryd.prog 54 = some 1 := tySize_of Proofs.Tryd.sizeOf54
@[simp] theorem lb54 : ∀ c off, loadB Proofs.Tryd.prog 54 c off = selB c[off]? := loadB_one (tyAgg_of Proofs.Tryd.isAgg54)
@[simp] theorem tz55 : tyZero Proofs.Tryd.prog 55 = some (.nilFunc) := tyZero_of Proofs.Tryd.zeroValue55
@[simp] theorem ts55 : tySize Proofs.Tryd.prog 55 = some 1 := tySize_of Proofs.Tryd.sizeOf55
@[simp] theorem lb55 : ∀ c off, loadB Proofs.Tryd.prog 55 c off = selB c[off]? := loadB_one (tyAgg_of Proofs.Tryd.isAgg55)
@[simp] theorem tz57 : tyZero Proofs.Tryd.prog 57 = some (.nilFunc) := tyZero_of Proofs.Tryd.zeroValue57
@[simp] theorem ts57 : tySize Proofs.Tryd.prog 57 = some 1 := tySize_of Proofs.Tryd.sizeOf57
@[simp] theorem lb57 : ∀ c off, loadB Proofs.Tryd.prog 57 c off = selB c[off]? := loadB_one (tyAgg_of Proofs.Tryd.isAgg57)
@[simp] theorem tz58 : tyZero Proofs.Tryd.prog 58 = some (.agg #[.int .u64 0, .int .u64 0, .int .u64 0, .int .u64 0, .int .u64 0, .int .u64 0, .int .u64 0, .int .u64 0, .int .u64 0, .int .u64 0, .int .u64 0, .int .u64 0, .int .u64 0, .int .u64 0, .int .u64 0, .int .u64 0]) := tyZero_of Proofs.Tryd.zeroValue58
@[simp] theorem ts58 : tySize Proofs.Tryd.prog 58 = some 16 := tySize_of Proofs.Tryd.sizeOf58
@[simp] theorem lb58 : ∀ c off, loadB Proofs.Tryd.prog 58 c off = if off + 16 ≤ c.size then some (.agg (c.extract off (off + 16))) else none := loadB_agg (tyAgg_of Proofs.Tryd.isAgg58) ts58
@[simp] theorem pl58 : placesOf Proofs.Tryd.prog 58 = some (.inr 1) := placesOf_arr Proofs.Tryd.underlying58 (tySize_of Proofs.Tryd.sizeOf22)
@[simp] theorem un58 : Proofs.Tryd.prog.underlying 58 = some (.array 16 22) := Proofs.Tryd.underlying58
@[simp] theorem ar58 : arrT Proofs.Tryd.prog 58 = some 16 := arrT_of Proofs.Tryd.underlying58 Proofs.Tryd.underlying22 (tySize_of Proofs.Tryd.sizeOf22) Proofs.Tryd.eqGuardType58
@[simp] theorem tz59 : tyZero Proofs.Tryd.prog 59 = some (.nilFunc) := tyZero_of Proofs.Tryd.zeroValue59
@[simp] theorem ts59 : tySize Proofs.Tryd.prog 59 = some 1 := tySize_of Proofs.Tryd.sizeOf59
@[simp] theorem lb59 : ∀ c off, loadB Proofs.Tryd.prog 59 c off = selB c[off]? := loadB_one (tyAgg_of Proofs.Tryd.isAgg59)
@[simp] theorem tz60 : tyZero Proofs.Tryd.prog 60 = some (.agg #[.int .u64 0, .int .u64 0, .int .u64 0, .int .u64 0, .int .u64 0, .int .u64 0, .int .u64 0, .int .u64 0]) := tyZero_of Proofs.Tryd.zeroValue60
@[simp] theorem ts60 : tySize Proofs.Tryd.prog 60 = some 8 := tySize_of Proofs.Tryd.sizeOf60
@[simp] theorem lb60 : ∀ c off, loadB Proofs.Tryd.prog 60 c off = if off + 8 ≤ c.size then some (.agg (c.extract off (off + 8))) else none := loadB_agg (tyAgg_of Proofs.Tryd.isAgg60) ts60
@[simp] theorem pl60 : placesOf Proofs.Tryd.prog 60 = some (.inr 1) := placesOf_arr Proofs.Tryd.underlying60 (tySize_of Proofs.Tryd.sizeOf22)
@[simp] theorem un60 : Proofs.Tryd.prog.underlying 60 = some (.array 8 22) := Proofs.Tryd.underlying60
@[simp] theorem ar60 : arrT Proofs.Tryd.prog 60 = some 8 := arrT_of Proofs.Tryd.underlying60 Proofs.Tryd.underlying22 (tySize_of Proofs.Tryd.sizeOf22) Proofs.Tryd.eqGuardType60
@[simp] theorem tz61 : tyZero Proofs.Tryd.prog 61 = some (.nilFunc) := tyZero_of Proofs.Tryd.zeroValue61
@[simp] theorem ts61 : tySize Proofs.Tryd.prog 61 = some 1 := tySize_of Proofs.Tryd.sizeOf61
@[simp] theorem lb61 : ∀ c off, loadB Proofs.Tryd.prog 61 c off = selB c[off]? := loadB_one (tyAgg_of Proofs.Tryd.isAgg61)
@[simp] theorem tz62 : tyZero Proofs.Tryd.prog 62 = some (.nilFunc) := tyZero_of Proofs.Tryd.zeroValue62
@[simp] theorem ts62 : tySize Proofs.Tryd.prog 62 = some 1 := tySize_of Proofs.Tryd.sizeOf62
@[simp] theorem lb62 : ∀ c off, loadB Proofs.Tryd.prog 62 c off = selB c[off]? := loadB_one (tyAgg_of Proofs.Tryd.isAgg62)
@[simp] theorem tz63 : tyZero Proofs.Tryd.prog 63 = some (.nilFunc) := tyZero_of Proofs.Tryd.zeroValue63
@[simp] theorem ts63 : tySize Proofs.Tryd.prog 63 = some 1 := tySize_of Proofs.Tryd.sizeOf63
@[simp] theorem lb63 : ∀ c off, loadB Proofs.Tryd.prog 63 c off = selB c[off]? := loadB_one (tyAgg_of Proofs.Tryd.isAgg63)
@[simp] theorem tz64 : tyZero Proofs.Tryd.prog 64 = some (.nilFunc) := tyZero_of Proofs.Tryd.zeroValue64
@[simp] theorem ts64 : tySize Proofs.Tryd.prog 64 = some 1 := tySize_of Proofs.Tryd.sizeOf64
@[simp] theorem lb64 : ∀ c off, loadB Proofs.Tryd.prog 64 c off = selB c[off]? := loadB_one (tyAgg_of Proofs.Tryd.isAgg64)
@[simp] theorem tz65 : tyZero Proofs.Tryd.prog 65 = some (.nilFunc) := tyZero_of Proofs.Tryd.zeroValue65
@[simp] theorem ts65 : tySize Proofs.Tryd.prog 65 = some 1 := tySize_of Proofs.Tryd.sizeOf65
@[simp] theorem lb65 : ∀ c off, loadB Proofs.Tryd.prog 65 c off = selB c[off]? := loadB_one (tyAgg_of Proofs.Tryd.isAgg65)
@[simp] theorem tz66 : tyZero Proofs.Tryd.prog 66 = some (.nilFunc) := tyZero_of Proofs.Tryd.zeroValue66
@[simp] theorem ts66 : tySize Proofs.Tryd.prog 66 = some 1 := tySize_of Proofs.Tryd.sizeOf66
@[simp] theorem lb66 : ∀ c off, loadB Proofs.Tryd.prog 66 c off = selB c[off]? := loadB_one (tyAgg_of Proofs.Tryd.isAgg66)
@[simp] theorem tz67 : tyZero Proofs.Tryd.prog 67 = some (.nilFunc) := tyZero_of Proofs.Tryd.zeroValue67
@[simp] theorem ts67 : tySize Proofs.Tryd.prog 67 = some 1 := tySize_of Proofs.Tryd.sizeOf67
@[simp] theorem lb67 : ∀ c off, loadB Proofs.Tryd.prog 67 c off = selB c[off]? := loadB_one (tyAgg_of Proofs.Tryd.isAgg67)
@[simp] theorem tz68 : tyZero Proofs.Tryd.prog 68 = some (.nilFunc) := tyZero_of Proofs.Tryd.zeroValue68
@[simp] theorem ts68 : tySize Proofs.Tryd.prog 68 = some 1 := tySize_of Proofs.Tryd.sizeOf68
@[simp] theorem lb68 : ∀ c off, loadB Proofs.Tryd.prog 68 c off = selB c[off]? := loadB_one (tyAgg_of Proofs.Tryd.isAgg68)
@[simp] theorem tz69 : tyZero Proofs.Tryd.prog 69 = some (.nilFunc) := tyZero_of Proofs.Tryd.zeroValue69
@[simp] theorem ts69 : tySize Proofs.Tryd.prog 69 = some 1 := tySize_of Proofs.Tryd.sizeOf69
@[simp] theorem lb69 : ∀ c off, loadB Proofs.Tryd.prog 69 c off = selB c[off]? := loadB_one (tyAgg_of Proofs.Tryd.isAgg69)
@[simp] theorem tz70 : tyZero Proofs.Tryd.prog 70 = some (.nilFunc) := tyZero_of Proofs.Tryd.zeroValue70
@[simp] theorem ts70 : tySize Proofs.Tryd.prog 70 = some 1 := tySize_of Proofs.Tryd.sizeOf70
@[simp] theorem lb70 : ∀ c off, loadB Proofs.Tryd.prog 70 c off = selB c[off]? := loadB_one (tyAgg_of Proofs.Tryd.isAgg70)
@[simp] theorem tz71 : tyZero Proofs.Tryd.prog 71 = some (.nilFunc) := tyZero_of Proofs.Tryd.zeroValue71
@[simp] theorem ts71 : tySize Proofs.Tryd.prog 71 = some 1 := tySize_of Proofs.Tryd.sizeOf71
@[simp] theorem lb71 : ∀ c off, loadB Proofs.Tryd.prog 71 c off = selB c[off]? := loadB_one (tyAgg_of Proofs.Tryd.isAgg71)
@[simp] theorem tz72 : tyZero Proofs.Tryd.prog 72 = some (.slice none 0 0) := tyZero_of Proofs.Tryd.zeroValue72
@[simp] theorem ts72 : tySize Proofs.Tryd.prog 72 = some 1 := tySize_of Proofs.Tryd.sizeOf72
@[simp] theorem lb72 : ∀ c off, loadB Proofs.Tryd.prog 72 c off = selB c[off]? := loadB_one (tyAgg_of Proofs.Tryd.isAgg72)
@[simp] theorem un72 : Proofs.Tryd.prog.underlying 72 = some (.slice 24) := Proofs.Tryd.underlying72
@[simp] theorem tz73 : tyZero Proofs.Tryd.prog 73 = some (.nilFunc) := tyZero_of Proofs.Tryd.zeroValue73
@[simp] theorem ts73 : tySize Proofs.Tryd.prog 73 = some 1 := tySize_of Proofs.Tryd.sizeOf73
@[simp] theorem lb73 : ∀ c off, loadB Proofs.Tryd.prog 73 c off = selB c[off]? := loadB_one (tyAgg_of Proofs.Tryd.isAgg73)
@[simp] theorem tz74 : tyZero Proofs.Tryd.prog 74 = some (.nilFunc) := tyZero_of Proofs.Tryd.zeroValue74
@[simp] theorem ts74 : tySize Proofs.Tryd.prog 74 = some 1 := tySize_of Proofs.Tryd.sizeOf74
@[simp] theorem lb74 : ∀ c off, loadB Proofs.Tryd.prog 74 c off = selB c[off]? := loadB_one (tyAgg_of Proofs.Tryd.isAgg74)
@[simp] theorem tz75 : tyZero Proofs.Tryd.prog 75 = some (.nilFunc) := tyZero_of Proofs.Tryd.zeroValue75
@[simp] theorem ts75 : tySize Proofs.Tryd.prog 75 = some 1 := tySize_of Proofs.Tryd.sizeOf75
@[simp] theorem lb75 : ∀ c off, loadB Proofs.Tryd.prog 75 c off = selB c[off]? := loadB_one (tyAgg_of Proofs.Tryd.isAgg75)
@[simp] theorem tz76 : tyZero Proofs.Tryd.prog 76 = some (.nilFunc) := tyZero_of Proofs.Tryd.zeroValue76
@[simp] theorem ts76 : tySize Proofs.Tryd.prog 76 = some 1 := tySize_of Proofs.Tryd.sizeOf76
@[simp] theorem lb76 : ∀ c off, loadB Proofs.Tryd.prog 76 c off = selB c[off]? := loadB_one (tyAgg_of Proofs.Tryd.isAgg76)
@[simp] theorem tz77 : tyZero Proofs.Tryd.prog 77 = some (.nilFunc) := tyZero_of Proofs.Tryd.zeroValue77
@[simp] theorem ts77 : tySize Proofs.Tryd.prog 77 = some 1 := tySize_of Proofs.Tryd.sizeOf77
@[simp] theorem lb77 : ∀ c off, loadB Proofs.Tryd.prog 77 c off = selB c[off]? := loadB_one (tyAgg_of Proofs.Tryd.isAgg77)
@[simp] theorem tz78 : tyZero Proofs.Tryd.prog 78 = some (.nilFunc) := tyZero_of Proofs.Tryd.zeroValue78
@[simp] theorem ts78 : tySize Proofs.Tryd.prog 78 = some 1 := tySize_of Proofs.Tryd.sizeOf78
@[simp] theorem lb78 : ∀ c off, loadB Proofs.Tryd.prog 78 c off = selB c[off]? := loadB_one (tyAgg_of Proofs.Tryd.isAgg78)
@[simp] theorem tz79 : tyZero Proofs.Tryd.prog 79 = some (.nilFunc) := tyZero_of Proofs.Tryd.zeroValue79
@[simp] theorem ts79 : tySize Proofs.Tryd.prog 79 = some 1 := tySize_of Proofs.Tryd.sizeOf79
@[simp] theorem lb79 : ∀ c off, loadB Proofs.Tryd.prog 79 c off = selB c[off]? := loadB_one (tyAgg_of Proofs.Tryd.isAgg79)
@[simp] theorem tz81 : tyZero Proofs.Tryd.prog 81 = some (.nilFunc) := tyZero_of Proofs.Tryd.zeroValue81
@[simp] theorem ts81 : tySize Proofs.Tryd.prog 81 = some 1 := tySize_of Proofs.Tryd.sizeOf81
@[simp] theorem lb81 : ∀ c off, loadB Proofs.Tryd.prog 81 c off = selB c[off]? := loadB_one (tyAgg_of Proofs.Tryd.isAgg81)
@[simp] theorem tz83 : tyZero Proofs.Tryd.prog 83 = some (.nilFunc) := tyZero_of Proofs.Tryd.zeroValue83
@[simp] theorem ts83 : tySize Proofs.Tryd.prog 83 = some 1 := tySize_of Proofs.Tryd.sizeOf83
@[simp] theorem lb83 : ∀ c off, loadB Proofs.Tryd.prog 83 c off = selB c[off]? := loadB_one (tyAgg_of Proofs.Tryd.isAgg83)
@[simp] theorem tz84 : tyZero Proofs.Tryd.prog 84 = some (.int .u64 0) := tyZero_of Proofs.Tryd.zeroValue84
@[simp] theorem ts84 : tySize Proofs.Tryd.prog 84 = some 1 := tySize_of Proofs.Tryd.sizeOf84
@[simp] theorem lb84 : ∀ c off, loadB Proofs.Tryd.prog 84 c off = selB c[off]? := loadB_one (tyAgg_of Proofs.Tryd.isAgg84)
@[simp] theorem un84 : Proofs.Tryd.prog.underlying 84 = some (.int .u64) := Proofs.Tryd.underlying84
@[simp] theorem tz85 : tyZero Proofs.Tryd.prog 85 = some (.agg #[.int .i64 0, .int .i64 0]) := tyZero_of Proofs.Tryd.zeroValue85
@[simp] theorem ts85 : tySize Proofs.Tryd.prog 85 = some 2 := tySize_of Proofs.Tryd.sizeOf85
@[simp] theorem lb85 : ∀ c off, loadB Proofs.Tryd.prog 85 c off = if off + 2 ≤ c.size then some (.agg (c.extract off (off + 2))) else none := loadB_agg (tyAgg_of Proofs.Tryd.isAgg85) ts85
@[simp] theorem fd85_0 : fdX Proofs.Tryd.prog 85 0 = some (3, 0) := by simp only [fdX, Proofs.Tryd.underlying85, tySize_of Proofs.Tryd.sizeOf3]; kernel_rfl
@[simp] theorem fd85_1 : fdX Proofs.Tryd.prog 85 1 = some (3, 1) := by simp only [fdX, Proofs.Tryd.underlying85, tySize_of Proofs.Tryd.sizeOf3]; kernel_rfl
@[simp] theorem pl85 : placesOf Proofs.Tryd.prog 85 = some (.inl [(0, 1), (1, 1)]) := by simp only [placesOf, Proofs.Tryd.underlying85]; kernel_rfl
@[simp] theorem tz86 : tyZero Proofs.Tryd.prog 86 = some (.agg #[.int .i64 0, .int .i64 0]) := tyZero_of Proofs.Tryd.zeroValue86
@[simp] theorem ts86 : tySize Proofs.Tryd.prog 86 = some 2 := tySize_of Proofs.Tryd.sizeOf86
@[simp] theorem lb86 : ∀ c off, loadB Proofs.Tryd.prog 86 c off = if off + 2 ≤ c.size then some (.agg (c.extract off (off + 2))) else none := loadB_agg (tyAgg_of Proofs.Tryd.isAgg86) ts86
@[simp] theorem fd86_0 : fdX Proofs.Tryd.prog 86 0 = some (3, 0) := by simp only [fdX, Proofs.Tryd.underlying86, tySize_of Proofs.Tryd.sizeOf3]; kernel_rfl
@[simp] theorem fd86_1 : fdX Proofs.Tryd.prog 86 1 = some (3, 1) := by simp only [fdX, Proofs.Tryd.underlying86, tySize_of Proofs.Tryd.sizeOf3]; kernel_rfl
@[simp] theorem pl86 : placesOf Proofs.Tryd.prog 86 = some (.inl [(0, 1), (1, 1)]) := by simp only [placesOf, Proofs.Tryd.underlying86]; kernel_rfl
@[simp] theorem tz87 : tyZero Proofs.Tryd.prog 87 = some (.agg #[.int .i64 0, .int .i64 0, .int .i64 0, .int .i64 0, .int .i64 0, .int .i64 0, .int .i64 0, .int .i64 0, .int .i64 0, .int .i64 0, .int .i64 0, .int .i64 0]) := tyZero_of Proofs.Tryd.zeroValue87
@[simp] theorem ts87 : tySize Proofs.Tryd.prog 87 = some 12 := tySize_of Proofs.Tryd.sizeOf87
@[simp] theorem lb87 : ∀ c off, loadB Proofs.Tryd.prog 87 c off = if off + 12 ≤ c.size then some (.agg (c.extract off (off + 12))) else none := loadB_agg (tyAgg_of Proofs.Tryd.isAgg87) ts87
@[simp] theorem pl87 : placesOf Proofs.Tryd.prog 87 = some (.inr 2) := placesOf_arr Proofs.Tryd.underlying87 (tySize_of Proofs.Tryd.sizeOf86)
@[simp] theorem un87 : Proofs.Tryd.prog.underlying 87 = some (.array 6 86) := Proofs.Tryd.underlying87
@[simp] theorem tz88 : tyZero Proofs.Tryd.prog 88 = some (.nilFunc) := tyZero_of Proofs.Tryd.zeroValue88
@[simp] theorem ts88 : tySize Proofs.Tryd.prog 88 = some 1 := tySize_of Proofs.Tryd.sizeOf88
@[simp] theorem lb88 : ∀ c off, loadB Proofs.Tryd.prog 88 c off = selB c[off]? := loadB_one (tyAgg_of Proofs.Tryd.isAgg88)
@[simp] theorem tz89 : tyZero Proofs.Tryd.prog 89 = some (.slice none 0 0) := tyZero_of Proofs.Tryd.zeroValue89
@[simp] theorem ts89 : tySize Proofs.Tryd.prog 89 = some 1 := tySize_of Proofs.Tryd.sizeOf89
@[simp] theorem lb89 : ∀ c off, loadB Proofs.Tryd.prog 89 c off = selB c[off]? := loadB_one (tyAgg_of Proofs.Tryd.isAgg89)
@[simp] theorem un89 : Proofs.Tryd.prog.underlying 89 = some (.slice 3) := Proofs.Tryd.underlying89
@[simp] theorem tz90 : tyZero Proofs.Tryd.prog 90 = some (.nilFunc) := tyZero_of Proofs.Tryd.zeroValue90
@[simp] theorem ts90 : tySize Proofs.Tryd.prog 90 = some 1 := tySize_of Proofs.Tryd.sizeOf90
@[simp] theorem lb90 : ∀ c off, loadB Proofs.Tryd.prog 90 c off = selB c[off]? := loadB_one (tyAgg_of Proofs.Tryd.isAgg90)
@[simp] theorem tz91 : tyZero Proofs.Tryd.prog 91 = some (.nilFunc) := tyZero_of Proofs.Tryd.zeroValue91
@[simp] theorem ts91 : tySize Proofs.Tryd.prog 91 = some 1 := tySize_of Proofs.Tryd.sizeOf91
@[simp] theorem lb91 : ∀ c off, loadB Proofs.Tryd.prog 91 c off = selB c[off]? := loadB_one (tyAgg_of Proofs.Tryd.isAgg91)
@[simp] theorem tz92 : tyZero Proofs.Tryd.prog 92 = some (.nilFunc) := tyZero_of Proofs.Tryd.zeroValue92
@[simp] theorem ts92 : tySize Proofs.Tryd.prog 92 = some 1 := tySize_of Proofs.Tryd.sizeOf92
@[simp] theorem lb92 : ∀ c off, loadB Proofs.Tryd.prog 92 c off = selB c[off]? := loadB_one (tyAgg_of Proofs.Tryd.isAgg92)
@[simp] theorem tz94 : tyZero Proofs.Tryd.prog 94 = some (.nilFunc) := tyZero_of Proofs.Tryd.zeroValue94
@[simp] theorem ts94 : tySize Proofs.Tryd.prog 94 = some 1 := tySize_of Proofs.Tryd.sizeOf94
@[simp] theorem lb94 : ∀ c off, loadB Proofs.Tryd.prog 94 c off = selB c[off]? := loadB_one (tyAgg_of Proofs.Tryd.isAgg94)
@[simp] theorem tz95 : tyZero Proofs.Tryd.prog 95 = some (.nilFunc) := tyZero_of Proofs.Tryd.zeroValue95
@[simp] theorem ts95 : tySize Proofs.Tryd.prog 95 = some 1 := tySize_of Proofs.Tryd.sizeOf95
@[simp] theorem lb95 : ∀ c off, loadB Proofs.Tryd.prog 95 c off = selB c[off]? := loadB_one (tyAgg_of Proofs.Tryd.isAgg95)
@[simp] theorem tz96 : tyZero Proofs.Tryd.prog 96 = some (.slice none 0 0) := tyZero_of Proofs.Tryd.zeroValue96
@[simp] theorem ts96 : tySize Proofs.Tryd.prog 96 = some 1 := tySize_of Proofs.Tryd.sizeOf96
@[simp] theorem lb96 : ∀ c off, loadB Proofs.Tryd.prog 96 c off = selB c[off]? := loadB_one (tyAgg_of Proofs.Tryd.isAgg96)
@[simp] theorem un96 : Proofs.Tryd.prog.underlying 96 = some (.slice 22) := Proofs.Tryd.underlying96
@[simp] theorem tz98 : tyZero Proofs.Tryd.prog 98 = some (.nilFunc) := tyZero_of Proofs.Tryd.zeroValue98
@[simp] theorem ts98 : tySize Proofs.Tryd.prog 98 = some 1 := tySize_of Proofs.Tryd.sizeOf98
@[simp] theorem lb98 : ∀ c off, loadB Proofs.Tryd.prog 98 c off = selB c[off]? := loadB_one (tyAgg_of Proofs.Tryd.isAgg98)
@[simp] theorem tz99 : tyZero Proofs.Tryd.prog 99 = some (.nilFunc) := tyZero_of Proofs.Tryd.zeroValue99
@[simp] theorem ts99 : tySize Proofs.Tryd.prog 99 = some 1 := tySize_of Proofs.Tryd.sizeOf99
@[simp] theorem lb99 : ∀ c off, loadB Proofs.Tryd.prog 99 c off = selB c[off]? := loadB_one (tyAgg_of Proofs.Tryd.isAgg99)
@[simp] theorem tz100 : tyZero Proofs.Tryd.prog 100 = some (.nilFunc) := tyZero_of Proofs.Tryd.zeroValue100
@[simp] theorem ts100 : tySize Proofs.Tryd.prog 100 = some 1 := tySize_of Proofs.Tryd.sizeOf100
@[simp] theorem lb100 : ∀ c off, loadB Proofs.Tryd.prog 100 c off = selB c[off]? := loadB_one (tyAgg_of Proofs.Tryd.isAgg100)
@[simp] theorem tz101 : tyZero Proofs.Tryd.prog 101 = some (.nilFunc) := tyZero_of Proofs.Tryd.zeroValue101
@[simp] theorem ts101 : tySize Proofs.Tryd.prog 101 = some 1 := tySize_of Proofs.Tryd.sizeOf101
@[simp] theorem lb101 : ∀ c off, loadB Proofs.Tryd.prog 101 c off = selB c[off]? := loadB_one (tyAgg_of Proofs.Tryd.isAgg101)
@[simp] theorem tz102 : tyZero Proofs.Tryd.prog 102 = some (.nilFunc) := tyZero_of Proofs.Tryd.zeroValue102
@[simp] theorem ts102 : tySize Proofs.Tryd.prog 102 = some 1 := tySize_of Proofs.Tryd.sizeOf102
@[simp] theorem lb102 : ∀ c off, loadB Proofs.Tryd.prog 102 c off = selB c[off]? := loadB_one (tyAgg_of Proofs.Tryd.isAgg102)
@[simp] theorem tz103 : tyZero Proofs.Tryd.prog 103 = some (.nilFunc) := tyZero_of Proofs.Tryd.zeroValue103
@[simp] theorem ts103 : tySize Proofs.Tryd.prog 103 = some 1 := tySize_of Proofs.Tryd.sizeOf103
@[simp] theorem lb103 : ∀ c off, loadB Proofs.Tryd.prog 103 c off = selB c[off]? := loadB_one (tyAgg_of Proofs.Tryd.isAgg103)
@[simp] theorem tz104 : tyZero Proofs.Tryd.prog 104 = some (.nilFunc) := tyZero_of Proofs.Tryd.zeroValue104
@[simp] theorem ts104 : tySize Proofs.Tryd.prog 104 = some 1 := tySize_of Proofs.Tryd.sizeOf104
@[simp] theorem lb104 : ∀ c off, loadB Proofs.Tryd.prog 104 c off = selB c[off]? := loadB_one (tyAgg_of Proofs.Tryd.isAgg104)
@[simp] theorem tz105 : tyZero Proofs.Tryd.prog 105 = some (.nilFunc) := tyZero_of Proofs.Tryd.zeroValue105
@[simp] theorem ts105 : tySize Proofs.Tryd.prog 105 = some 1 := tySize_of Proofs.Tryd.sizeOf105
@[simp] theorem lb105 : ∀ c off, loadB Proofs.Tryd.prog 105 c off = selB c[off]? := loadB_one (tyAgg_of Proofs.Tryd.isAgg105)
@[simp] theorem tz106 : tyZero Proofs.Tryd.prog 106 = some (.nilFunc) := tyZero_of Proofs.Tryd.zeroValue106
@[simp] theorem ts106 : tySize Proofs.Tryd.prog 106 = some 1 := tySize_of Proofs.Tryd.sizeOf106
@[simp] theorem lb106 : ∀ c off, loadB Proofs.Tryd.prog 106 c off = selB c[off]? := loadB_one (tyAgg_of Proofs.Tryd.isAgg106)
@[simp] theorem tz107 : tyZero Proofs.Tryd.prog 107 = some (.nilFunc) := tyZero_of Proofs.Tryd.zeroValue107
@[simp] theorem ts107 : tySize Proofs.Tryd.prog 107 = some 1 := tySize_of Proofs.Tryd.sizeOf107
@[simp] theorem lb107 : ∀ c off, loadB Proofs.Tryd.prog 107 c off = selB c[off]? := loadB_one (tyAgg_of Proofs.Tryd.isAgg107)
@[simp] theorem tz108 : tyZero Proofs.Tryd.prog 108 = some (.nilFunc) := tyZero_of Proofs.Tryd.zeroValue108
@[simp] theorem ts108 : tySize Proofs.Tryd.prog 108 = some 1 := tySize_of Proofs.Tryd.sizeOf108
@[simp] theorem lb108 : ∀ c off, loadB Proofs.Tryd.prog 108 c off = selB c[off]? := loadB_one (tyAgg_of Proofs.Tryd.isAgg108)
@[simp] theorem tz109 : tyZero Proofs.Tryd.prog 109 = some (.nilFunc) := tyZero_of Proofs.Tryd.zeroValue109
@[simp] theorem ts109 : tySize Proofs.Tryd.prog 109 = some 1 := tySize_of Proofs.Tryd.sizeOf109
@[simp] theorem lb109 : ∀ c off, loadB Proofs.Tryd.prog 109 c off = selB c[off]? := loadB_one (tyAgg_of Proofs.Tryd.isAgg109)
@[simp] theorem tz110 : tyZero Proofs.Tryd.prog 110 = some (.nilFunc) := tyZero_of Proofs.Tryd.zeroValue110
@[simp] theorem ts110 : tySize Proofs.Tryd.prog 110 = some 1 := tySize_of Proofs.Tryd.sizeOf110
@[simp] theorem lb110 : ∀ c off, loadB Proofs.Tryd.prog 110 c off = selB c[off]? := loadB_one (tyAgg_of Proofs.Tryd.isAgg110)
@[simp] theorem tz111 : tyZero Proofs.Tryd.prog 111 = some (.nilFunc) := tyZero_of Proofs.Tryd.zeroValue111
@[simp] theorem ts111 : tySize Proofs.Tryd.prog 111 = some 1 := tySize_of Proofs.Tryd.sizeOf111
@[simp] theorem lb111 : ∀ c off, loadB Proofs.Tryd.prog 111 c off = selB c[off]? := loadB_one (tyAgg_of Proofs.Tryd.isAgg111)
@[simp] theorem tz112 : tyZero Proofs.Tryd.prog 112 = some (.agg #[.pointer none, .pointer none, .pointer none, .string { data := #[] }]) := tyZero_of Proofs.Tryd.zeroValue112
@[simp] theorem ts112 : tySize Proofs.Tryd.prog 112 = some 4 := tySize_of Proofs.Tryd.sizeOf112
@[simp] theorem lb112 : ∀ c off, loadB Proofs.Tryd.prog 112 c off = if off + 4 ≤ c.size then some (.agg (c.extract off (off + 4))) else none := loadB_agg (tyAgg_of Proofs.Tryd.isAgg112) ts112
@[simp] theorem fd112_0 : fdX Proofs.Tryd.prog 112 0 = some (17, 0) := by simp only [fdX, Proofs.Tryd.underlying112, tySize_of Proofs.Tryd.sizeOf17]; kernel_rfl
@[simp] theorem fd112_1 : fdX Proofs.Tryd.prog 112 1 = some (17, 1) := by simp only [fdX, Proofs.Tryd.underlying112, tySize_of Proofs.Tryd.sizeOf17]; kernel_rfl
@[simp] theorem fd112_2 : fdX Proofs.Tryd.prog 112 2 = some (17, 2) := by simp only [fdX, Proofs.Tryd.underlying112, tySize_of Proofs.Tryd.sizeOf17]; kernel_rfl
@[simp] theorem fd112_3 : fdX Proofs.Tryd.prog 112 3 = some (9, 3) := by simp only [fdX, Proofs.Tryd.underlying112, tySize_of Proofs.Tryd.sizeOf9]; kernel_rfl
@[simp] theorem pl112 : placesOf Proofs.Tryd.prog 112 = some (.inl [(0, 1), (1, 1), (2, 1), (3, 1)]) := by simp only [placesOf, Proofs.Tryd.underlying112]; kernel_rfl
@[simp] theorem tz113 : tyZero Proofs.Tryd.prog 113 = some (.agg #[.pointer none, .pointer none, .pointer none, .string { data := #[] }]) := tyZero_of Proofs.Tryd.zeroValue113
@[simp] theorem ts113 : tySize Proofs.Tryd.prog 113 = some 4 := tySize_of Proofs.Tryd.sizeOf113
@[simp] theorem lb113 : ∀ c off, loadB Proofs.Tryd.prog 113 c off = if off + 4 ≤ c.size then some (.agg (c.extract off (off + 4))) else none := loadB_agg (tyAgg_of Proofs.Tryd.isAgg113) ts113
@[simp] theorem fd113_0 : fdX Proofs.Tryd.prog 113 0 = some (17, 0) := by simp only [fdX, Proofs.Tryd.underlying113, tySize_of Proofs.Tryd.sizeOf17]; kernel_rfl
@[simp] theorem fd113_1 : fdX Proofs.Tryd.prog 113 1 = some (17, 1) := by simp only [fdX, Proofs.Tryd.underlying113, tySize_of Proofs.Tryd.sizeOf17]; kernel_rfl
@[simp] theorem fd113_2 : fdX Proofs.Tryd.prog 113 2 = some (17, 2) := by simp only [fdX, Proofs.Tryd.underlying113, tySize_of Proofs.Tryd.sizeOf17]; kernel_rfl
@[simp] theorem fd113_3 : fdX Proofs.Tryd.prog 113 3 = some (9, 3) := by simp only [fdX, Proofs.Tryd.underlying113, tySize_of Proofs.Tryd.sizeOf9]; kernel_rfl
@[simp] theorem pl113 : placesOf Proofs.Tryd.prog 113 = some (.inl [(0, 1), (1, 1), (2, 1), (3, 1)]) := by simp only [placesOf, Proofs.Tryd.underlying113]; kernel_rfl
@[simp] theorem tz114 : tyZero Proofs.Tryd.prog 114 = some (.agg #[]) := tyZero_of Proofs.Tryd.zeroValue114
@[simp] theorem ts114 : tySize Proofs.Tryd.prog 114 = some 0 := tySize_of Proofs.Tryd.sizeOf114
@[simp] theorem lb114 : ∀ c off, loadB Proofs.Tryd.prog 114 c off = if off + 0 ≤ c.size then some (.agg (c.extract off (off + 0))) else none := loadB_agg (tyAgg_of Proofs.Tryd.isAgg114) ts114
@[simp] theorem pl114 : placesOf Proofs.Tryd.prog 114 = some (.inr 1) := placesOf_arr Proofs.Tryd.underlying114 (tySize_of Proofs.Tryd.sizeOf16)
@[simp] theorem un114 : Proofs.Tryd.prog.underlying 114 = some (.array 0 16) := Proofs.Tryd.underlying114
@[simp] theorem tz115 : tyZero Proofs.Tryd.prog 115 = some (.agg #[]) := tyZero_of Proofs.Tryd.zeroValue115
@[simp] theorem ts115 : tySize Proofs.Tryd.prog 115 = some 0 := tySize_of Proofs.Tryd.sizeOf115
@[simp] theorem lb115 : ∀ c off, loadB Proofs.Tryd.prog 115 c off = if off + 0 ≤ c.size then some (.agg (c.extract off (off + 0))) else none := loadB_agg (tyAgg_of Proofs.Tryd.isAgg115) ts115
@[simp] theorem pl115 : placesOf Proofs.Tryd.prog 115 = some (.inl [(0, 0)]) := by simp only [placesOf, Proofs.Tryd.underlying115]; kernel_rfl
@[simp] theorem tz116 : tyZero Proofs.Tryd.prog 116 = some (.agg #[]) := tyZero_of Proofs.Tryd.zeroValue116
@[simp] theorem ts116 : tySize Proofs.Tryd.prog 116 = some 0 := tySize_of Proofs.Tryd.sizeOf116
@[simp] theorem lb116 : ∀ c off, loadB Proofs.Tryd.prog 116 c off = if off + 0 ≤ c.size then some (.agg (c.extract off (off + 0))) else none := loadB_agg (tyAgg_of Proofs.Tryd.isAgg116) ts116
@[simp] theorem pl116 : placesOf Proofs.Tryd.prog 116 = some (.inl [(0, 0)]) := by simp only [placesOf, Proofs.Tryd.underlying116]; kernel_rfl
@[simp] theorem tz117 : tyZero Proofs.Tryd.prog 117 = some (.nilFunc) := tyZero_of Proofs.Tryd.zeroValue117
@[simp] theorem ts117 : tySize Proofs.Tryd.prog 117 = some 1 := tySize_of Proofs.Tryd.sizeOf117
@[simp] theorem lb117 : ∀ c off, loadB Proofs.Tryd.prog 117 c off = selB c[off]? := loadB_one (tyAgg_of Proofs.Tryd.isAgg117)
@[simp] theorem tz118 : tyZero Proofs.Tryd.prog 118 = some (.int .u32 0) := tyZero_of Proofs.Tryd.zeroValue118
@[simp] theorem ts118 : tySize Proofs.Tryd.prog 118 = some 1 := tySize_of Proofs.Tryd.sizeOf118
@[simp] theorem lb118 : ∀ c off, loadB Proofs.Tryd.prog 118 c off = selB c[off]? := loadB_one (tyAgg_of Proofs.Tryd.isAgg118)
@[simp] theorem un118 : Proofs.Tryd.prog.underlying 118 = some (.int .u32) := Proofs.Tryd.underlying118
@[simp] theorem tz119 : tyZero Proofs.Tryd.prog 119 = some (.int .u8 0) := tyZero_of Proofs.Tryd.zeroValue119
@[simp] theorem ts119 : tySize Proofs.Tryd.prog 119 = some 1 := tySize_of Proofs.Tryd.sizeOf119
@[simp] theorem lb119 : ∀ c off, loadB Proofs.Tryd.prog 119 c off = selB c[off]? := loadB_one (tyAgg_of Proofs.Tryd.isAgg119)
@[simp] theorem un119 : Proofs.Tryd.prog.underlying 119 = some (.int .u8) := Proofs.Tryd.underlying119
@[simp] theorem tz120 : tyZero Proofs.Tryd.prog 120 = some (.int .u8 0) := tyZero_of Proofs.Tryd.zeroValue120
@[simp] theorem ts120 : tySize Proofs.Tryd.prog 120 = some 1 := tySize_of Proofs.Tryd.sizeOf120
@[simp] theorem lb120 : ∀ c off, loadB Proofs.Tryd.prog 120 c off = selB c[off]? := loadB_one (tyAgg_of Proofs.Tryd.isAgg120)
@[simp] theorem un120 : Proofs.Tryd.prog.underlying 120 = some (.int .u8) := Proofs.Tryd.underlying120
@[simp] theorem tz121 : tyZero Proofs.Tryd.prog 121 = some (.nilFunc) := tyZero_of Proofs.Tryd.zeroValue121
@[simp] theorem ts121 : tySize Proofs.Tryd.prog 121 = some 1 := tySize_of Proofs.Tryd.sizeOf121
@[simp] theorem lb121 : ∀ c off, loadB Proofs.Tryd.prog 121 c off = selB c[off]? := loadB_one (tyAgg_of Proofs.Tryd.isAgg121)
@[simp] theorem tz122 : tyZero Proofs.Tryd.prog 122 = some (.pointer none) := tyZero_of Proofs.Tryd.zeroValue122
@[simp] theorem ts122 : tySize Proofs.Tryd.prog 122 = some 1 := tySize_of Proofs.Tryd.sizeOf122
@[simp] theorem lb122 : ∀ c off, loadB Proofs.Tryd.prog 122 c off = selB c[off]? := loadB_one (tyAgg_of Proofs.Tryd.isAgg122)
@[simp] theorem tz123 : tyZero Proofs.Tryd.prog 123 = some (.int .i32 0) := tyZero_of Proofs.Tryd.zeroValue123
@[simp] theorem ts123 : tySize Proofs.Tryd.prog 123 = some 1 := tySize_of Proofs.Tryd.sizeOf123
@[simp] theorem lb123 : ∀ c off, loadB Proofs.Tryd.prog 123 c off = selB c[off]? := loadB_one (tyAgg_of Proofs.Tryd.isAgg123)
@[simp] theorem un123 : Proofs.Tryd.prog.underlying 123 = some (.int .i32) := Proofs.Tryd.underlying123
@[simp] theorem tz124 : tyZero Proofs.Tryd.prog 124 = some (.int .i32 0) := tyZero_of Proofs.Tryd.zeroValue124
@[simp] theorem ts124 : tySize Proofs.Tryd.prog 124 = some 1 := tySize_of Proofs.Tryd.sizeOf124
@[simp] theorem lb124 : ∀ c off, loadB Proofs.Tryd.prog 124 c off = selB c[off]? := loadB_one (tyAgg_of Proofs.Tryd.isAgg124)
@[simp] theorem un124 : Proofs.Tryd.prog.underlying 124 = some (.int .i32) := Proofs.Tryd.underlying124
@[simp] theorem tz125 : tyZero Proofs.Tryd.prog 125 = some (.agg #[.int .u64 0, .int .u64 0, .int .u32 0, .int .u8 0, .int .u8 0, .int .u8 0, .int .u8 0, .nilFunc, .pointer none, .int .i32 0, .int .i32 0]) := tyZero_of Proofs.Tryd.zeroValue125
@[simp] theorem ts125 : tySize Proofs.Tryd.prog 125 = some 11 := tySize_of Proofs.Tryd.sizeOf125
@[simp] theorem lb125 : ∀ c off, loadB Proofs.Tryd.prog 125 c off = if off + 11 ≤ c.size then some (.agg (c.extract off (off + 11))) else none := loadB_agg (tyAgg_of Proofs.Tryd.isAgg125) ts125
@[simp] theorem fd125_0 : fdX Proofs.Tryd.prog 125 0 = some (12, 0) := by simp only [fdX, Proofs.Tryd.underlying125, tySize_of Proofs.Tryd.sizeOf12]; kernel_rfl
@[simp] theorem fd125_1 : fdX Proofs.Tryd.prog 125 1 = some (12, 1) := by simp only [fdX, Proofs.Tryd.underlying125, tySize_of Proofs.Tryd.sizeOf12]; kernel_rfl
@[simp] theorem fd125_2 : fdX Proofs.Tryd.prog 125 2 = some (118, 2) := by simp only [fdX, Proofs.Tryd.underlying125, tySize_of Proofs.Tryd.sizeOf118]; kernel_rfl
@[simp] theorem fd125_3 : fdX Proofs.Tryd.prog 125 3 = some (119, 3) := by simp only [fdX, Proofs.Tryd.underlying125, tySize_of Proofs.Tryd.sizeOf119]; kernel_rfl
@[simp] theorem fd125_4 : fdX Proofs.Tryd.prog 125 4 = some (5, 4) := by simp only [fdX, Proofs.Tryd.underlying125, tySize_of Proofs.Tryd.sizeOf5]; kernel_rfl
@[simp] theorem fd125_5 : fdX Proofs.Tryd.prog 125 5 = some (5, 5) := by simp only [fdX, Proofs.Tryd.underlying125, tySize_of Proofs.Tryd.sizeOf5]; kernel_rfl
@[simp] theorem fd125_6 : fdX Proofs.Tryd.prog 125 6 = some (120, 6) := by simp only [fdX, Proofs.Tryd.underlying125, tySize_of Proofs.Tryd.sizeOf120]; kernel_rfl
@[simp] theorem fd125_7 : fdX Proofs.Tryd.prog 125 7 = some (121, 7) := by simp only [fdX, Proofs.Tryd.underlying125, tySize_of Proofs.Tryd.sizeOf121]; kernel_rfl
@[simp] theorem fd125_8 : fdX Proofs.Tryd.prog 125 8 = some (122, 8) := by simp only [fdX, Proofs.Tryd.underlying125, tySize_of Proofs.Tryd.sizeOf122]; kernel_rfl
@[simp] theorem fd125_9 : fdX Proofs.Tryd.prog 125 9 = some (123, 9) := by simp only [fdX, Proofs.Tryd.underlying125, tySize_of Proofs.Tryd.sizeOf123]; kernel_rfl
@[simp] theorem fd125_10 : fdX Proofs.Tryd.prog 125 10 = some (124, 10) := by simp only [fdX, Proofs.Tryd.underlying125, tySize_of Proofs.Tryd.sizeOf124]; kernel_rfl
@[simp] theorem pl125 : placesOf Proofs.Tryd.prog 125 = some (.inl [(0, 1), (1, 1), (2, 1), (3, 1), (4, 1), (5, 1), (6, 1), (7, 1), (8, 1), (9, 1), (10, 1)]) := by simp only [placesOf, Proofs.Tryd.underlying125]; kernel_rfl
@[simp] theorem tz126 : tyZero Proofs.Tryd.prog 126 = some (.agg #[.int .u64 0, .int .u64 0, .int .u32 0, .int .u8 0, .int .u8 0, .int .u8 0, .int .u8 0, .nilFunc, .pointer none, .int .i32 0, .int .i32 0]) := tyZero_of Proofs.Tryd.zeroValue126
@[simp] theorem ts126 : tySize Proofs.Tryd.prog 126 = some 11 := tySize_of Proofs.Tryd.sizeOf126
@[simp] theorem lb126 : ∀ c off, loadB Proofs.Tryd.prog 126 c off = if off + 11 ≤ c.size then some (.agg (c.extract off (off + 11))) else none := loadB_agg (tyAgg_of Proofs.Tryd.isAgg126) ts126
@[simp] theorem fd126_0 : fdX Proofs.Tryd.prog 126 0 = some (12, 0) := by simp only [fdX, Proofs.Tryd.underlying126, tySize_of Proofs.Tryd.sizeOf12]; kernel_rfl
@[simp] theorem fd126_1 : fdX Proofs.Tryd.prog 126 1 = some (12, 1) := by simp only [fdX, Proofs.Tryd.underlying126, tySize_of Proofs.Tryd.sizeOf12]; kernel_rfl
@[simp] theorem fd126_2 : fdX Proofs.Tryd.prog 126 2 = some (118, 2) := by simp only [fdX, Proofs.Tryd.underlying126, tySize_of Proofs.Tryd.sizeOf118]; kernel_rfl
@[simp] theorem fd126_3 : fdX Proofs.Tryd.prog 126 3 = some (119, 3) := by simp only [fdX, Proofs.Tryd.underlying126, tySize_of Proofs.Tryd.sizeOf119]; kernel_rfl
@[simp] theorem fd126_4 : fdX Proofs.Tryd.prog 126 4 = some (5, 4) := by simp only [fdX, Proofs.Tryd.underlying126, tySize_of Proofs.Tryd.sizeOf5]; kernel_rfl
@[simp] theorem fd126_5 : fdX Proofs.Tryd.prog 126 5 = some (5, 5) := by simp only [fdX, Proofs.Tryd.underlying126, tySize_of Proofs.Tryd.sizeOf5]; kernel_rfl
@[simp] theorem fd126_6 : fdX Proofs.Tryd.prog 126 6 = some (120, 6) := by simp only [fdX, Proofs.Tryd.underlying126, tySize_of Proofs.Tryd.sizeOf120]; kernel_rfl
@[simp] theorem fd126_7 : fdX Proofs.Tryd.prog 126 7 = some (121, 7) := by simp only [fdX, Proofs.Tryd.underlying126, tySize_of Proofs.Tryd.sizeOf121]; kernel_rfl
@[simp] theorem fd126_8 : fdX Proofs.Tryd.prog 126 8 = some (122, 8) := by simp only [fdX, Proofs.Tryd.underlying126, tySize_of Proofs.Tryd.sizeOf122]; kernel_rfl
@[simp] theorem fd126_9 : fdX Proofs.Tryd.prog 126 9 = some (123, 9) := by simp only [fdX, Proofs.Tryd.underlying126, tySize_of Proofs.Tryd.sizeOf123]; kernel_rfl
@[simp] theorem fd126_10 : fdX Proofs.Tryd.prog 126 10 = some (124, 10) := by simp only [fdX, Proofs.Tryd.underlying126, tySize_of Proofs.Tryd.sizeOf124]; kernel_rfl
@[simp] theorem pl126 : placesOf Proofs.Tryd.prog 126 = some (.inl [(0, 1), (1, 1), (2, 1), (3, 1), (4, 1), (5, 1), (6, 1), (7, 1), (8, 1), (9, 1), (10, 1)]) := by simp only [placesOf, Proofs.Tryd.underlying126]; kernel_rfl
end Go.Gy
