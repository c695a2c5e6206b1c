/- What calls tell that closed runs meet. No condition. -/
import Derived.Test.YtknnbjoagigmgaaGreatUD
import Derived.Test.YtknnbjoagigmgaaGreatEB
import Derived.Test.YtknnbjoagigmgaaGreatEZ
set_option linter.unusedSimpArgs false
set_option linter.unusedVariables false
namespace Go.Proofs.YtknnbjoagigmgaaGreat
open Go
set_option maxRecDepth 100000

noncomputable def zTD4_5 : D := (.agg [(.int .i64 2),(.str [115,117,99]),(.sl 3 [(.agg [(.int .i64 2),(.str [115,117,99]),(.sl 3 [(.agg [(.int .i64 2),(.str [122,101,114,111]),.nils])] [] .true)])] [] .true)])

noncomputable def zTD4_4 : Ob := (.row 3 [zTD4_5])

noncomputable def zTD4_3 : D := (.sl 3 [zTD4_5] [] .true)

noncomputable def zTD4_2 : D := (.agg [(.int .i64 2),(.str [115,117,99]),zTD4_3])

noncomputable def zTD4_1 : Ob := (.row 3 [zTD4_2])

noncomputable def zTD4_0 : Ob := (.row 1 [(.sl 3 [(.agg [(.int .i64 2),(.str [122,101,114,111]),.nils])] [] .true),(.sl 3 [(.agg [(.int .i64 2),(.str [115,117,99]),(.sl 3 [(.agg [(.int .i64 2),(.str [122,101,114,111]),.nils])] [] .true)])] [] .true),zTD4_3,(.sl 3 [zTD4_2] [] .true),(.sl 3 [(.agg [(.int .i64 1),(.str []),.nils])] [] .true)])

noncomputable def hTD4e0 : Hps := [(344147139494467,zTD4_0),(344147139494411,zTD4_1),(344147139494369,zTD4_4),(344147139494338,(.row 3 [(.agg [(.int .i64 2),(.str [115,117,99]),(.sl 3 [(.agg [(.int .i64 2),(.str [122,101,114,111]),.nils])] [] .true)])])),(344147139494318,(.row 3 [(.agg [(.int .i64 2),(.str [122,101,114,111]),.nils])])),(339749092983149,zEZ_0),(329853488333156,zEZ_1),(325455441822043,zEZ_0),(267181325549878,zEZ_1),(262783279038752,zEZ_2),(252887674388759,zEZ_3),(178120883699937,zEZ_3),(173722837188811,zEZ_4),(163827232538818,zEZ_5),(89060441849996,zEZ_5),(84662395338870,zEZ_6),(74766790688877,zEZ_7),(55,zEZ_7),(32,(.row 1 [(.agg [(.ms 17 339749092983149 0 4 .false)])])),(27,(.row 2 [(.agg [(.ms 17 325455441822043 0 4 .false),(.mp 22)])])),(22,zEZ_8),(21,(.row 1 [(.agg [(.mp 22)])]))]
noncomputable def aTD4e0 : List D := [(.ptr 27 0 0),(.ms 1 344147139494467 0 5 .false)]
noncomputable def rTD4e0 : Rd := (.ok (.tup [(.agg [(.bool .false),(.int .i64 0),(.int .i64 0),(.sl 1 [(.str [122,101,114,111]),(.str [115,117,99])] [] .false),(.sl 5 [(.agg [(.bool .true),(.int .i64 0),(.int .i64 0),.nils,.nils]),(.agg [(.bool .false),(.int .i64 0),(.int .i64 0),(.sl 1 [(.str [122,101,114,111]),(.str [115,117,99])] [] .false),(.sl 5 [(.agg [(.bool .true),(.int .i64 1),(.int .i64 0),.nils,.nils]),(.agg [(.bool .false),(.int .i64 0),(.int .i64 0),(.sl 1 [(.str [122,101,114,111]),(.str [115,117,99])] [] .false),(.sl 5 [(.agg [(.bool .true),(.int .i64 2),(.int .i64 0),.nils,.nils]),(.agg [(.bool .false),(.int .i64 0),(.int .i64 0),(.sl 1 [(.str [122,101,114,111]),(.str [115,117,99])] [] .false),(.sl 5 [(.agg [(.bool .true),(.int .i64 3),(.int .i64 0),.nils,.nils]),(.agg [(.bool .true),(.int .i64 4),(.int .i64 0),.nils,.nils])] [] .false)])] [] .false)])] [] .false)])] [] .false)]),(.int .i64 0)]) 344147139494472 [(22,zEZ_8),(325455441822043,zEZ_0),(27,(.row 2 [(.agg [(.ms 17 325455441822043 0 4 .false),(.mp 22)])])),(344147139494467,zTD4_0),(344147139494411,zTD4_1),(344147139494369,zTD4_4),(344147139494338,(.row 3 [(.agg [(.int .i64 2),(.str [115,117,99]),(.sl 3 [(.agg [(.int .i64 2),(.str [122,101,114,111]),.nils])] [] .true)])])),(344147139494318,(.row 3 [(.agg [(.int .i64 2),(.str [122,101,114,111]),.nils])])),(339749092983149,zEZ_0),(329853488333156,zEZ_1),(267181325549878,zEZ_1),(262783279038752,zEZ_2),(252887674388759,zEZ_3),(178120883699937,zEZ_3),(173722837188811,zEZ_4),(163827232538818,zEZ_5),(89060441849996,zEZ_5),(84662395338870,zEZ_6),(74766790688877,zEZ_7),(55,zEZ_7),(32,(.row 1 [(.agg [(.ms 17 339749092983149 0 4 .false)])])),(21,(.row 1 [(.agg [(.mp 22)])]))])
theorem rTD4e0_run : runH mEB uD 100000 21 344147139494472 hTD4e0 aTD4e0 = rTD4e0 := by kernel_rfl
noncomputable def mTD4e0 : List ME := ⟨21,344147139494472,hTD4e0,aTD4e0,rTD4e0⟩ :: mEB
theorem mTD4e0_ok : MOk (cFk kQ Tryz.prog) mTD4e0 := ⟨runH_ok mEB_ok uD_ok (fun h => by cases h) rTD4e0_run,mEB_ok⟩

noncomputable def mTD4 : List ME := mTD4e0
theorem mTD4_ok : MOk (cFk kQ Tryz.prog) mTD4 := mTD4e0_ok

end Go.Proofs.YtknnbjoagigmgaaGreat
