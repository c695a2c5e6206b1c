/- What calls tell that closed runs meet. No condition. -/
import Derived.Test.YtknnbjoagigmgaaGreatUC
import Derived.Test.YtknnbjoagigmgaaGreatEB
import Derived.Test.YtknnbjoagigmgaaGreatEZ
set_option linter.unusedSimpArgs false
set_option linter.unusedVariables false
namespace Go.Proofs.YtknnbjoagigmgaaGreat
open Go
set_option maxRecDepth 100000

noncomputable def zTC3_12 : D := (.sl 5 [(.agg [(.bool .true),(.int .i64 7),(.int .i64 0),.nils,.nils]),(.agg [(.bool .true),(.int .i64 3),(.int .i64 0),.nils,.nils])] [] .false)

noncomputable def zTC3_13 : D := (.sl 5 [(.agg [(.bool .true),(.int .i64 5),(.int .i64 0),.nils,.nils]),(.agg [(.bool .true),(.int .i64 1),(.int .i64 0),.nils,.nils])] [] .false)

noncomputable def zTC3_14 : D := (.sl 5 [(.agg [(.bool .true),(.int .i64 6),(.int .i64 0),.nils,.nils]),(.agg [(.bool .true),(.int .i64 2),(.int .i64 0),.nils,.nils])] [] .false)

noncomputable def zTC3_15 : D := (.sl 5 [(.agg [(.bool .true),(.int .i64 4),(.int .i64 0),.nils,.nils]),(.agg [(.bool .true),(.int .i64 0),(.int .i64 0),.nils,.nils])] [] .false)

noncomputable def zTC3_8 : D := (.agg [(.bool .false),(.int .i64 0),(.int .i64 0),(.sl 1 [(.str [121,101,115]),(.str [110,111])] [] .false),zTC3_12])

noncomputable def zTC3_9 : D := (.agg [(.bool .false),(.int .i64 0),(.int .i64 0),(.sl 1 [(.str [121,101,115]),(.str [110,111])] [] .false),zTC3_13])

noncomputable def zTC3_10 : D := (.agg [(.bool .false),(.int .i64 0),(.int .i64 0),(.sl 1 [(.str [121,101,115]),(.str [110,111])] [] .false),zTC3_14])

noncomputable def zTC3_11 : D := (.agg [(.bool .false),(.int .i64 0),(.int .i64 0),(.sl 1 [(.str [121,101,115]),(.str [110,111])] [] .false),zTC3_15])

noncomputable def zTC3_6 : D := (.sl 5 [zTC3_8,zTC3_9] [] .false)

noncomputable def zTC3_7 : D := (.sl 5 [zTC3_10,zTC3_11] [] .false)

noncomputable def zTC3_4 : D := (.agg [(.bool .false),(.int .i64 0),(.int .i64 0),(.sl 1 [(.str [121,101,115]),(.str [110,111])] [] .false),zTC3_6])

noncomputable def zTC3_5 : D := (.agg [(.bool .false),(.int .i64 0),(.int .i64 0),(.sl 1 [(.str [121,101,115]),(.str [110,111])] [] .false),zTC3_7])

noncomputable def zTC3_3 : D := (.sl 5 [zTC3_4,zTC3_5] [] .false)

noncomputable def zTC3_2 : Ob := (.row 1 [(.sl 3 [(.agg [(.int .i64 2),(.str [110,111]),.nils]),(.agg [(.int .i64 2),(.str [110,111]),.nils]),(.agg [(.int .i64 2),(.str [110,111]),.nils])] [] .false),(.sl 3 [(.agg [(.int .i64 2),(.str [121,101,115]),.nils]),(.agg [(.int .i64 2),(.str [110,111]),.nils]),(.agg [(.int .i64 2),(.str [110,111]),.nils])] [] .false),(.sl 3 [(.agg [(.int .i64 2),(.str [110,111]),.nils]),(.agg [(.int .i64 2),(.str [121,101,115]),.nils]),(.agg [(.int .i64 2),(.str [110,111]),.nils])] [] .false),(.sl 3 [(.agg [(.int .i64 2),(.str [121,101,115]),.nils]),(.agg [(.int .i64 2),(.str [121,101,115]),.nils]),(.agg [(.int .i64 2),(.str [110,111]),.nils])] [] .false),(.sl 3 [(.agg [(.int .i64 2),(.str [110,111]),.nils]),(.agg [(.int .i64 2),(.str [110,111]),.nils]),(.agg [(.int .i64 2),(.str [121,101,115]),.nils])] [] .false),(.sl 3 [(.agg [(.int .i64 2),(.str [121,101,115]),.nils]),(.agg [(.int .i64 2),(.str [110,111]),.nils]),(.agg [(.int .i64 2),(.str [121,101,115]),.nils])] [] .false),(.sl 3 [(.agg [(.int .i64 2),(.str [110,111]),.nils]),(.agg [(.int .i64 2),(.str [121,101,115]),.nils]),(.agg [(.int .i64 2),(.str [121,101,115]),.nils])] [] .false),(.sl 3 [(.agg [(.int .i64 2),(.str [121,101,115]),.nils]),(.agg [(.int .i64 2),(.str [121,101,115]),.nils]),(.agg [(.int .i64 2),(.str [121,101,115]),.nils])] [] .false)])

noncomputable def zTC3_1 : D := (.agg [(.bool .false),(.int .i64 0),(.int .i64 0),(.sl 1 [(.str [121,101,115]),(.str [110,111])] [] .false),zTC3_3])

noncomputable def zTC3_0 : Ob := (.row 5 [zTC3_1])

noncomputable def hTC3e0 : Hps := [(344147139494428,zTC3_2),(339749092983149,zEZ_0),(329853488333156,zEZ_1),(325455441822043,zEZ_0),(267181325549878,zEZ_1),(262783279038752,zEZ_2),(252887674388759,zEZ_3),(178120883699937,zEZ_3),(173722837188811,zEZ_4),(163827232538818,zEZ_5),(89060441849996,zEZ_5),(84662395338870,zEZ_6),(74766790688877,zEZ_7),(55,zEZ_7),(32,(.row 1 [(.agg [(.ms 17 339749092983149 0 4 .false)])])),(27,(.row 2 [(.agg [(.ms 17 325455441822043 0 4 .false),(.mp 22)])])),(22,zEZ_8),(21,(.row 1 [(.agg [(.mp 22)])]))]
noncomputable def aTC3e0 : List D := [(.ptr 27 0 0),(.ms 1 344147139494428 0 8 .false)]
noncomputable def rTC3e0 : Rd := (.ok (.tup [zTC3_1,(.int .i64 0)]) 344147139494440 [(22,zEZ_8),(325455441822043,zEZ_0),(27,(.row 2 [(.agg [(.ms 17 325455441822043 0 4 .false),(.mp 22)])])),(344147139494428,zTC3_2),(339749092983149,zEZ_0),(329853488333156,zEZ_1),(267181325549878,zEZ_1),(262783279038752,zEZ_2),(252887674388759,zEZ_3),(178120883699937,zEZ_3),(173722837188811,zEZ_4),(163827232538818,zEZ_5),(89060441849996,zEZ_5),(84662395338870,zEZ_6),(74766790688877,zEZ_7),(55,zEZ_7),(32,(.row 1 [(.agg [(.ms 17 339749092983149 0 4 .false)])])),(21,(.row 1 [(.agg [(.mp 22)])]))])
theorem rTC3e0_run : runH mEB uC 100000 21 344147139494440 hTC3e0 aTC3e0 = rTC3e0 := by kernel_rfl
noncomputable def mTC3e0 : List ME := ⟨21,344147139494440,hTC3e0,aTC3e0,rTC3e0⟩ :: mEB
theorem mTC3e0_ok : MOk (cFk kQ Tryz.prog) mTC3e0 := ⟨runH_ok mEB_ok uC_ok (fun h => by cases h) rTC3e0_run,mEB_ok⟩

noncomputable def hTC3e1 : Hps := [(344147139494444,zTC3_0),(22,zEZ_8),(325455441822043,zEZ_0),(27,(.row 2 [(.agg [(.ms 17 325455441822043 0 4 .false),(.mp 22)])])),(344147139494428,zTC3_2),(339749092983149,zEZ_0),(329853488333156,zEZ_1),(267181325549878,zEZ_1),(262783279038752,zEZ_2),(252887674388759,zEZ_3),(178120883699937,zEZ_3),(173722837188811,zEZ_4),(163827232538818,zEZ_5),(89060441849996,zEZ_5),(84662395338870,zEZ_6),(74766790688877,zEZ_7),(55,zEZ_7),(32,(.row 1 [(.agg [(.ms 17 339749092983149 0 4 .false)])])),(21,(.row 1 [(.agg [(.mp 22)])]))]
noncomputable def aTC3e1 : List D := [(.ptr 27 0 0),(.ms 1 344147139494428 1 7 .false)]
noncomputable def rTC3e1 : Rd := (.ok (.tup [(.agg [(.bool .false),(.int .i64 0),(.int .i64 0),.nils,.nils]),(.int .i64 54)]) 358440790655543 [(22,zEZ_8),(325455441822043,zEZ_0),(27,(.row 2 [(.agg [(.ms 17 325455441822043 0 4 .false),(.mp 22)])])),(344147139494444,zTC3_0),(344147139494428,zTC3_2),(339749092983149,zEZ_0),(329853488333156,zEZ_1),(267181325549878,zEZ_1),(262783279038752,zEZ_2),(252887674388759,zEZ_3),(178120883699937,zEZ_3),(173722837188811,zEZ_4),(163827232538818,zEZ_5),(89060441849996,zEZ_5),(84662395338870,zEZ_6),(74766790688877,zEZ_7),(55,zEZ_7),(32,(.row 1 [(.agg [(.ms 17 339749092983149 0 4 .false)])])),(21,(.row 1 [(.agg [(.mp 22)])]))])
theorem rTC3e1_run : runH mTC3e0 uC 100000 21 358440790655543 hTC3e1 aTC3e1 = rTC3e1 := by kernel_rfl
noncomputable def mTC3e1 : List ME := ⟨21,358440790655543,hTC3e1,aTC3e1,rTC3e1⟩ :: mTC3e0
theorem mTC3e1_ok : MOk (cFk kQ Tryz.prog) mTC3e1 := ⟨runH_ok mTC3e0_ok uC_ok (fun h => by cases h) rTC3e1_run,mTC3e0_ok⟩

noncomputable def mTC3 : List ME := mTC3e1
theorem mTC3_ok : MOk (cFk kQ Tryz.prog) mTC3 := mTC3e1_ok

end Go.Proofs.YtknnbjoagigmgaaGreat
