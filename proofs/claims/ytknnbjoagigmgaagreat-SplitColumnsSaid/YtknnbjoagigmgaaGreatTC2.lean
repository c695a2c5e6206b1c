/- What calls tell that closed runs meet. No condition. -/
import Derived.Test.YtknnbjoagigmgaaGreatUC
import Derived.Test.YtknnbjoagigmgaaGreatEB
import Derived.Test.YtknnbjoagigmgaaGreatEZ
set_option linter.unusedSimpArgs false
set_option linter.unusedVariables false
namespace Go.Proofs.YtknnbjoagigmgaaGreat
open Go
set_option maxRecDepth 100000

noncomputable def zTC2_6 : D := (.sl 5 [(.agg [(.bool .true),(.int .i64 3),(.int .i64 0),.nils,.nils]),(.agg [(.bool .true),(.int .i64 1),(.int .i64 0),.nils,.nils])] [] .false)

noncomputable def zTC2_7 : D := (.sl 5 [(.agg [(.bool .true),(.int .i64 2),(.int .i64 0),.nils,.nils]),(.agg [(.bool .true),(.int .i64 0),(.int .i64 0),.nils,.nils])] [] .false)

noncomputable def zTC2_4 : D := (.agg [(.bool .false),(.int .i64 0),(.int .i64 0),(.sl 1 [(.str [121,101,115]),(.str [110,111])] [] .false),zTC2_6])

noncomputable def zTC2_5 : D := (.agg [(.bool .false),(.int .i64 0),(.int .i64 0),(.sl 1 [(.str [121,101,115]),(.str [110,111])] [] .false),zTC2_7])

noncomputable def zTC2_3 : Ob := (.row 1 [(.sl 3 [(.agg [(.int .i64 2),(.str [110,111]),.nils]),(.agg [(.int .i64 2),(.str [110,111]),.nils])] [] .false),(.sl 3 [(.agg [(.int .i64 2),(.str [121,101,115]),.nils]),(.agg [(.int .i64 2),(.str [110,111]),.nils])] [] .false),(.sl 3 [(.agg [(.int .i64 2),(.str [110,111]),.nils]),(.agg [(.int .i64 2),(.str [121,101,115]),.nils])] [] .false),(.sl 3 [(.agg [(.int .i64 2),(.str [121,101,115]),.nils]),(.agg [(.int .i64 2),(.str [121,101,115]),.nils])] [] .false)])

noncomputable def zTC2_2 : D := (.sl 5 [zTC2_4,zTC2_5] [] .false)

noncomputable def zTC2_1 : D := (.agg [(.bool .false),(.int .i64 0),(.int .i64 0),(.sl 1 [(.str [121,101,115]),(.str [110,111])] [] .false),zTC2_2])

noncomputable def zTC2_0 : Ob := (.row 5 [zTC2_1])

noncomputable def hTC2e0 : Hps := [(344147139494368,zTC2_3),(339749092983149,zEZ_0),(329853488333156,zEZ_1),(325455441822043,zEZ_0),(267181325549878,zEZ_1),(262783279038752,zEZ_2),(252887674388759,zEZ_3),(178120883699937,zEZ_3),(173722837188811,zEZ_4),(163827232538818,zEZ_5),(89060441849996,zEZ_5),(84662395338870,zEZ_6),(74766790688877,zEZ_7),(55,zEZ_7),(32,(.row 1 [(.agg [(.ms 17 339749092983149 0 4 .false)])])),(27,(.row 2 [(.agg [(.ms 17 325455441822043 0 4 .false),(.mp 22)])])),(22,zEZ_8),(21,(.row 1 [(.agg [(.mp 22)])]))]
noncomputable def aTC2e0 : List D := [(.ptr 27 0 0),(.ms 1 344147139494368 0 4 .false)]
noncomputable def rTC2e0 : Rd := (.ok (.tup [zTC2_1,(.int .i64 0)]) 344147139494380 [(22,zEZ_8),(325455441822043,zEZ_0),(27,(.row 2 [(.agg [(.ms 17 325455441822043 0 4 .false),(.mp 22)])])),(344147139494368,zTC2_3),(339749092983149,zEZ_0),(329853488333156,zEZ_1),(267181325549878,zEZ_1),(262783279038752,zEZ_2),(252887674388759,zEZ_3),(178120883699937,zEZ_3),(173722837188811,zEZ_4),(163827232538818,zEZ_5),(89060441849996,zEZ_5),(84662395338870,zEZ_6),(74766790688877,zEZ_7),(55,zEZ_7),(32,(.row 1 [(.agg [(.ms 17 339749092983149 0 4 .false)])])),(21,(.row 1 [(.agg [(.mp 22)])]))])
theorem rTC2e0_run : runH mEB uC 100000 21 344147139494380 hTC2e0 aTC2e0 = rTC2e0 := by kernel_rfl
noncomputable def mTC2e0 : List ME := ⟨21,344147139494380,hTC2e0,aTC2e0,rTC2e0⟩ :: mEB
theorem mTC2e0_ok : MOk (cFk kQ Tryz.prog) mTC2e0 := ⟨runH_ok mEB_ok uC_ok (fun h => by cases h) rTC2e0_run,mEB_ok⟩

noncomputable def hTC2e1 : Hps := [(344147139494384,zTC2_0),(22,zEZ_8),(325455441822043,zEZ_0),(27,(.row 2 [(.agg [(.ms 17 325455441822043 0 4 .false),(.mp 22)])])),(344147139494368,zTC2_3),(339749092983149,zEZ_0),(329853488333156,zEZ_1),(267181325549878,zEZ_1),(262783279038752,zEZ_2),(252887674388759,zEZ_3),(178120883699937,zEZ_3),(173722837188811,zEZ_4),(163827232538818,zEZ_5),(89060441849996,zEZ_5),(84662395338870,zEZ_6),(74766790688877,zEZ_7),(55,zEZ_7),(32,(.row 1 [(.agg [(.ms 17 339749092983149 0 4 .false)])])),(21,(.row 1 [(.agg [(.mp 22)])]))]
noncomputable def aTC2e1 : List D := [(.ptr 27 0 0),(.ms 1 344147139494368 1 3 .false)]
noncomputable def rTC2e1 : Rd := (.ok (.tup [(.agg [(.bool .false),(.int .i64 0),(.int .i64 0),.nils,.nils]),(.int .i64 54)]) 358440790655483 [(22,zEZ_8),(325455441822043,zEZ_0),(27,(.row 2 [(.agg [(.ms 17 325455441822043 0 4 .false),(.mp 22)])])),(344147139494384,zTC2_0),(344147139494368,zTC2_3),(339749092983149,zEZ_0),(329853488333156,zEZ_1),(267181325549878,zEZ_1),(262783279038752,zEZ_2),(252887674388759,zEZ_3),(178120883699937,zEZ_3),(173722837188811,zEZ_4),(163827232538818,zEZ_5),(89060441849996,zEZ_5),(84662395338870,zEZ_6),(74766790688877,zEZ_7),(55,zEZ_7),(32,(.row 1 [(.agg [(.ms 17 339749092983149 0 4 .false)])])),(21,(.row 1 [(.agg [(.mp 22)])]))])
theorem rTC2e1_run : runH mTC2e0 uC 100000 21 358440790655483 hTC2e1 aTC2e1 = rTC2e1 := by kernel_rfl
noncomputable def mTC2e1 : List ME := ⟨21,358440790655483,hTC2e1,aTC2e1,rTC2e1⟩ :: mTC2e0
theorem mTC2e1_ok : MOk (cFk kQ Tryz.prog) mTC2e1 := ⟨runH_ok mTC2e0_ok uC_ok (fun h => by cases h) rTC2e1_run,mTC2e0_ok⟩

noncomputable def mTC2 : List ME := mTC2e1
theorem mTC2_ok : MOk (cFk kQ Tryz.prog) mTC2 := mTC2e1_ok

end Go.Proofs.YtknnbjoagigmgaaGreat
