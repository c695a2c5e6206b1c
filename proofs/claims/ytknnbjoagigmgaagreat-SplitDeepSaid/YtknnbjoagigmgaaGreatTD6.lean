/- What calls tell that closed runs meet. No condition. -/
import Derived.Test.YtknnbjoagigmgaaGreatUD
import Derived.Test.YtknnbjoagigmgaaGreatEB
import Derived.Test.YtknnbjoagigmgaaGreatEZ
set_option linter.unusedSimpArgs false
set_option linter.unusedVariables false
namespace Go.Proofs.YtknnbjoagigmgaaGreat
open Go
set_option maxRecDepth 100000

noncomputable def zTD6_11 : D := (.agg [(.int .i64 2),(.str [115,117,99]),(.sl 3 [(.agg [(.int .i64 2),(.str [115,117,99]),(.sl 3 [(.agg [(.int .i64 2),(.str [122,101,114,111]),.nils])] [] .true)])] [] .true)])

noncomputable def zTD6_10 : Ob := (.row 3 [zTD6_11])

noncomputable def zTD6_9 : D := (.sl 3 [zTD6_11] [] .true)

noncomputable def zTD6_8 : D := (.agg [(.int .i64 2),(.str [115,117,99]),zTD6_9])

noncomputable def zTD6_7 : Ob := (.row 3 [zTD6_8])

noncomputable def zTD6_6 : D := (.sl 3 [zTD6_8] [] .true)

noncomputable def zTD6_5 : D := (.agg [(.int .i64 2),(.str [115,117,99]),zTD6_6])

noncomputable def zTD6_4 : Ob := (.row 3 [zTD6_5])

noncomputable def zTD6_3 : D := (.sl 3 [zTD6_5] [] .true)

noncomputable def zTD6_2 : D := (.agg [(.int .i64 2),(.str [115,117,99]),zTD6_3])

noncomputable def zTD6_1 : Ob := (.row 3 [zTD6_2])

noncomputable def zTD6_0 : Ob := (.row 1 [(.sl 3 [(.agg [(.int .i64 2),(.str [122,101,114,111]),.nils])] [] .true),(.sl 3 [(.agg [(.int .i64 2),(.str [115,117,99]),(.sl 3 [(.agg [(.int .i64 2),(.str [122,101,114,111]),.nils])] [] .true)])] [] .true),zTD6_9,zTD6_6,zTD6_3,(.sl 3 [zTD6_2] [] .true),(.sl 3 [(.agg [(.int .i64 1),(.str []),.nils])] [] .true)])

noncomputable def hTD6e0 : Hps := [(344147139494606,zTD6_0),(344147139494528,zTD6_1),(344147139494464,zTD6_4),(344147139494411,zTD6_7),(344147139494369,zTD6_10),(344147139494338,(.row 3 [(.agg [(.int .i64 2),(.str [115,117,99]),(.sl 3 [(.agg [(.int .i64 2),(.str [122,101,114,111]),.nils])] [] .true)])])),(344147139494318,(.row 3 [(.agg [(.int .i64 2),(.str [122,101,114,111]),.nils])])),(339749092983149,zEZ_0),(329853488333156,zEZ_1),(325455441822043,zEZ_0),(267181325549878,zEZ_1),(262783279038752,zEZ_2),(252887674388759,zEZ_3),(178120883699937,zEZ_3),(173722837188811,zEZ_4),(163827232538818,zEZ_5),(89060441849996,zEZ_5),(84662395338870,zEZ_6),(74766790688877,zEZ_7),(55,zEZ_7),(32,(.row 1 [(.agg [(.ms 17 339749092983149 0 4 .false)])])),(27,(.row 2 [(.agg [(.ms 17 325455441822043 0 4 .false),(.mp 22)])])),(22,zEZ_8),(21,(.row 1 [(.agg [(.mp 22)])]))]
noncomputable def aTD6e0 : List D := [(.ptr 27 0 0),(.ms 1 344147139494606 0 7 .false)]
noncomputable def rTD6e0 : Rd := (.ok (.tup [(.agg [(.bool .false),(.int .i64 0),(.int .i64 0),(.sl 1 [(.str [122,101,114,111]),(.str [115,117,99])] [] .false),(.sl 5 [(.agg [(.bool .true),(.int .i64 0),(.int .i64 0),.nils,.nils]),(.agg [(.bool .false),(.int .i64 0),(.int .i64 0),(.sl 1 [(.str [122,101,114,111]),(.str [115,117,99])] [] .false),(.sl 5 [(.agg [(.bool .true),(.int .i64 1),(.int .i64 0),.nils,.nils]),(.agg [(.bool .false),(.int .i64 0),(.int .i64 0),(.sl 1 [(.str [122,101,114,111]),(.str [115,117,99])] [] .false),(.sl 5 [(.agg [(.bool .true),(.int .i64 2),(.int .i64 0),.nils,.nils]),(.agg [(.bool .false),(.int .i64 0),(.int .i64 0),(.sl 1 [(.str [122,101,114,111]),(.str [115,117,99])] [] .false),(.sl 5 [(.agg [(.bool .true),(.int .i64 3),(.int .i64 0),.nils,.nils]),(.agg [(.bool .false),(.int .i64 0),(.int .i64 0),(.sl 1 [(.str [122,101,114,111]),(.str [115,117,99])] [] .false),(.sl 5 [(.agg [(.bool .true),(.int .i64 4),(.int .i64 0),.nils,.nils]),(.agg [(.bool .false),(.int .i64 0),(.int .i64 0),(.sl 1 [(.str [122,101,114,111]),(.str [115,117,99])] [] .false),(.sl 5 [(.agg [(.bool .true),(.int .i64 5),(.int .i64 0),.nils,.nils]),(.agg [(.bool .true),(.int .i64 6),(.int .i64 0),.nils,.nils])] [] .false)])] [] .false)])] [] .false)])] [] .false)])] [] .false)])] [] .false)]),(.int .i64 0)]) 344147139494611 [(22,zEZ_8),(325455441822043,zEZ_0),(27,(.row 2 [(.agg [(.ms 17 325455441822043 0 4 .false),(.mp 22)])])),(344147139494606,zTD6_0),(344147139494528,zTD6_1),(344147139494464,zTD6_4),(344147139494411,zTD6_7),(344147139494369,zTD6_10),(344147139494338,(.row 3 [(.agg [(.int .i64 2),(.str [115,117,99]),(.sl 3 [(.agg [(.int .i64 2),(.str [122,101,114,111]),.nils])] [] .true)])])),(344147139494318,(.row 3 [(.agg [(.int .i64 2),(.str [122,101,114,111]),.nils])])),(339749092983149,zEZ_0),(329853488333156,zEZ_1),(267181325549878,zEZ_1),(262783279038752,zEZ_2),(252887674388759,zEZ_3),(178120883699937,zEZ_3),(173722837188811,zEZ_4),(163827232538818,zEZ_5),(89060441849996,zEZ_5),(84662395338870,zEZ_6),(74766790688877,zEZ_7),(55,zEZ_7),(32,(.row 1 [(.agg [(.ms 17 339749092983149 0 4 .false)])])),(21,(.row 1 [(.agg [(.mp 22)])]))])
theorem rTD6e0_run : runH mEB uD 100000 21 344147139494611 hTD6e0 aTD6e0 = rTD6e0 := by kernel_rfl
noncomputable def mTD6e0 : List ME := ⟨21,344147139494611,hTD6e0,aTD6e0,rTD6e0⟩ :: mEB
theorem mTD6e0_ok : MOk (cFk kQ Tryz.prog) mTD6e0 := ⟨runH_ok mEB_ok uD_ok (fun h => by cases h) rTD6e0_run,mEB_ok⟩

noncomputable def mTD6 : List ME := mTD6e0
theorem mTD6_ok : MOk (cFk kQ Tryz.prog) mTD6 := mTD6e0_ok

end Go.Proofs.YtknnbjoagigmgaaGreat
