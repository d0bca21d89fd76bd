import Derived.Test.YtolkipbpklkcnaaGreatKR64
import Derived.Test.YtolkipbpklkcnaaGreatProg
section
namespace Go.Proofs
open Go.Wx
theorem Tryz.en9 (args : Array Value) (w : World) : (callFunc 9 args).run Tryz.prog w = .ok (.enter 9 args) w := enters_fn Tryz.func9 (by kernel_rfl) rfl args w
theorem Tryz.en10 (args : Array Value) (w : World) : (callFunc 10 args).run Tryz.prog w = .ok (.enter 10 args) w := enters_fn Tryz.func10 (by kernel_rfl) rfl args w
theorem Tryz.en11 (args : Array Value) (w : World) : (callFunc 11 args).run Tryz.prog w = .ok (.enter 11 args) w := enters_fn Tryz.func11 (by kernel_rfl) rfl args w
theorem Tryz.en12 (args : Array Value) (w : World) : (callFunc 12 args).run Tryz.prog w = .ok (.enter 12 args) w := enters_fn Tryz.func12 (by kernel_rfl) rfl args w
theorem Tryz.en13 (args : Array Value) (w : World) : (callFunc 13 args).run Tryz.prog w = .ok (.enter 13 args) w := enters_fn Tryz.func13 (by kernel_rfl) rfl args w
theorem Tryz.en14 (args : Array Value) (w : World) : (callFunc 14 args).run Tryz.prog w = .ok (.enter 14 args) w := enters_fn Tryz.func14 (by kernel_rfl) rfl args w
theorem Tryz.en15 (args : Array Value) (w : World) : (callFunc 15 args).run Tryz.prog w = .ok (.enter 15 args) w := enters_fn Tryz.func15 (by kernel_rfl) rfl args w
theorem Tryz.en16 (args : Array Value) (w : World) : (callFunc 16 args).run Tryz.prog w = .ok (.enter 16 args) w := enters_fn Tryz.func16 (by kernel_rfl) rfl args w
theorem Tryz.en17 (args : Array Value) (w : World) : (callFunc 17 args).run Tryz.prog w = .ok (.enter 17 args) w := enters_fn Tryz.func17 (by kernel_rfl) rfl args w
theorem Tryz.en18 (args : Array Value) (w : World) : (callFunc 18 args).run Tryz.prog w = .ok (.enter 18 args) w := enters_fn Tryz.func18 (by kernel_rfl) rfl args w
theorem Tryz.en19 (args : Array Value) (w : World) : (callFunc 19 args).run Tryz.prog w = .ok (.enter 19 args) w := enters_fn Tryz.func19 (by kernel_rfl) rfl args w
theorem Tryz.en20 (args : Array Value) (w : World) : (callFunc 20 args).run Tryz.prog w = .ok (.enter 20 args) w := enters_fn Tryz.func20 (by kernel_rfl) rfl args w
theorem Tryz.en21 (args : Array Value) (w : World) : (callFunc 21 args).run Tryz.prog w = .ok (.enter 21 args) w := enters_fn Tryz.func21 (by kernel_rfl) rfl args w
theorem Tryz.en22 (args : Array Value) (w : World) : (callFunc 22 args).run Tryz.prog w = .ok (.enter 22 args) w := enters_fn Tryz.func22 (by kernel_rfl) rfl args w
theorem Tryz.en23 (args : Array Value) (w : World) : (callFunc 23 args).run Tryz.prog w = .ok (.enter 23 args) w := enters_fn Tryz.func23 (by kernel_rfl) rfl args w
theorem Tryz.en24 (args : Array Value) (w : World) : (callFunc 24 args).run Tryz.prog w = .ok (.enter 24 args) w := enters_fn Tryz.func24 (by kernel_rfl) rfl args w
theorem Tryz.en26 (args : Array Value) (w : World) : (callFunc 26 args).run Tryz.prog w = .ok (.enter 26 args) w := enters_fn Tryz.func26 (by kernel_rfl) rfl args w
theorem Tryz.en27 (args : Array Value) (w : World) : (callFunc 27 args).run Tryz.prog w = .ok (.enter 27 args) w := enters_fn Tryz.func27 (by kernel_rfl) rfl args w
theorem Tryz.en28 (args : Array Value) (w : World) : (callFunc 28 args).run Tryz.prog w = .ok (.enter 28 args) w := enters_fn Tryz.func28 (by kernel_rfl) rfl args w
theorem Tryz.en29 (args : Array Value) (w : World) : (callFunc 29 args).run Tryz.prog w = .ok (.enter 29 args) w := enters_fn Tryz.func29 (by kernel_rfl) rfl args w
theorem Tryz.en30 (args : Array Value) (w : World) : (callFunc 30 args).run Tryz.prog w = .ok (.enter 30 args) w := enters_fn Tryz.func30 (by kernel_rfl) rfl args w
theorem Tryz.en31 (args : Array Value) (w : World) : (callFunc 31 args).run Tryz.prog w = .ok (.enter 31 args) w := enters_fn Tryz.func31 (by kernel_rfl) rfl args w
theorem Tryz.en32 (args : Array Value) (w : World) : (callFunc 32 args).run Tryz.prog w = .ok (.enter 32 args) w := enters_fn Tryz.func32 (by kernel_rfl) rfl args w
theorem Tryz.en33 (args : Array Value) (w : World) : (callFunc 33 args).run Tryz.prog w = .ok (.enter 33 args) w := enters_fn Tryz.func33 (by kernel_rfl) rfl args w
theorem Tryz.en34 (args : Array Value) (w : World) : (callFunc 34 args).run Tryz.prog w = .ok (.enter 34 args) w := enters_fn Tryz.func34 (by kernel_rfl) rfl args w
theorem Tryz.en35 (args : Array Value) (w : World) : (callFunc 35 args).run Tryz.prog w = .ok (.enter 35 args) w := enters_fn Tryz.func35 (by kernel_rfl) rfl args w
theorem Tryz.en36 (args : Array Value) (w : World) : (callFunc 36 args).run Tryz.prog w = .ok (.enter 36 args) w := enters_fn Tryz.func36 (by kernel_rfl) rfl args w
theorem Tryz.en37 (args : Array Value) (w : World) : (callFunc 37 args).run Tryz.prog w = .ok (.enter 37 args) w := enters_fn Tryz.func37 (by kernel_rfl) rfl args w
theorem Tryz.en38 (args : Array Value) (w : World) : (callFunc 38 args).run Tryz.prog w = .ok (.enter 38 args) w := enters_fn Tryz.func38 (by kernel_rfl) rfl args w
theorem Tryz.en39 (args : Array Value) (w : World) : (callFunc 39 args).run Tryz.prog w = .ok (.enter 39 args) w := enters_fn Tryz.func39 (by kernel_rfl) rfl args w
theorem Tryz.en40 (args : Array Value) (w : World) : (callFunc 40 args).run Tryz.prog w = .ok (.enter 40 args) w := enters_fn Tryz.func40 (by kernel_rfl) rfl args w
theorem Tryz.en41 (args : Array Value) (w : World) : (callFunc 41 args).run Tryz.prog w = .ok (.enter 41 args) w := enters_fn Tryz.func41 (by kernel_rfl) rfl args w
theorem Tryz.en42 (args : Array Value) (w : World) : (callFunc 42 args).run Tryz.prog w = .ok (.enter 42 args) w := enters_fn Tryz.func42 (by kernel_rfl) rfl args w
theorem Tryz.en43 (args : Array Value) (w : World) : (callFunc 43 args).run Tryz.prog w = .ok (.enter 43 args) w := enters_fn Tryz.func43 (by kernel_rfl) rfl args w
theorem Tryz.en44 (args : Array Value) (w : World) : (callFunc 44 args).run Tryz.prog w = .ok (.enter 44 args) w := enters_fn Tryz.func44 (by kernel_rfl) rfl args w
theorem Tryz.en45 (args : Array Value) (w : World) : (callFunc 45 args).run Tryz.prog w = .ok (.enter 45 args) w := enters_fn Tryz.func45 (by kernel_rfl) rfl args w
theorem Tryz.en46 (args : Array Value) (w : World) : (callFunc 46 args).run Tryz.prog w = .ok (.enter 46 args) w := enters_fn Tryz.func46 (by kernel_rfl) rfl args w
theorem Tryz.en47 (args : Array Value) (w : World) : (callFunc 47 args).run Tryz.prog w = .ok (.enter 47 args) w := enters_fn Tryz.func47 (by kernel_rfl) rfl args w
theorem Tryz.en48 (args : Array Value) (w : World) : (callFunc 48 args).run Tryz.prog w = .ok (.enter 48 args) w := enters_fn Tryz.func48 (by kernel_rfl) rfl args w
theorem Tryz.en49 (args : Array Value) (w : World) : (callFunc 49 args).run Tryz.prog w = .ok (.enter 49 args) w := enters_fn Tryz.func49 (by kernel_rfl) rfl args w
theorem Tryz.en50 (args : Array Value) (w : World) : (callFunc 50 args).run Tryz.prog w = .ok (.enter 50 args) w := enters_fn Tryz.func50 (by kernel_rfl) rfl args w
theorem Tryz.en51 (args : Array Value) (w : World) : (callFunc 51 args).run Tryz.prog w = .ok (.enter 51 args) w := enters_fn Tryz.func51 (by kernel_rfl) rfl args w
theorem Tryz.en52 (args : Array Value) (w : World) : (callFunc 52 args).run Tryz.prog w = .ok (.enter 52 args) w := enters_fn Tryz.func52 (by kernel_rfl) rfl args w
theorem Tryz.en53 (args : Array Value) (w : World) : (callFunc 53 args).run Tryz.prog w = .ok (.enter 53 args) w := enters_fn Tryz.func53 (by kernel_rfl) rfl args w
theorem Tryz.en54 (args : Array Value) (w : World) : (callFunc 54 args).run Tryz.prog w = .ok (.enter 54 args) w := enters_fn Tryz.func54 (by kernel_rfl) rfl args w
theorem Tryz.en55 (args : Array Value) (w : World) : (callFunc 55 args).run Tryz.prog w = .ok (.enter 55 args) w := enters_fn Tryz.func55 (by kernel_rfl) rfl args w
theorem Tryz.en56 (args : Array Value) (w : World) : (callFunc 56 args).run Tryz.prog w = .ok (.enter 56 args) w := enters_fn Tryz.func56 (by kernel_rfl) rfl args w
theorem Tryz.en57 (args : Array Value) (w : World) : (callFunc 57 args).run Tryz.prog w = .ok (.enter 57 args) w := enters_fn Tryz.func57 (by kernel_rfl) rfl args w
theorem Tryz.en58 (args : Array Value) (w : World) : (callFunc 58 args).run Tryz.prog w = .ok (.enter 58 args) w := enters_fn Tryz.func58 (by kernel_rfl) rfl args w
theorem Tryz.en59 (args : Array Value) (w : World) : (callFunc 59 args).run Tryz.prog w = .ok (.enter 59 args) w := enters_fn Tryz.func59 (by kernel_rfl) rfl args w
theorem Tryz.en60 (args : Array Value) (w : World) : (callFunc 60 args).run Tryz.prog w = .ok (.enter 60 args) w := enters_fn Tryz.func60 (by kernel_rfl) rfl args w
theorem Tryz.en61 (args : Array Value) (w : World) : (callFunc 61 args).run Tryz.prog w = .ok (.enter 61 args) w := enters_fn Tryz.func61 (by kernel_rfl) rfl args w
theorem Tryz.en62 (args : Array Value) (w : World) : (callFunc 62 args).run Tryz.prog w = .ok (.enter 62 args) w := enters_fn Tryz.func62 (by kernel_rfl) rfl args w
theorem Tryz.en63 (args : Array Value) (w : World) : (callFunc 63 args).run Tryz.prog w = .ok (.enter 63 args) w := enters_fn Tryz.func63 (by kernel_rfl) rfl args w
theorem Tryz.en64 (args : Array Value) (w : World) : (callFunc 64 args).run Tryz.prog w = .ok (.enter 64 args) w := enters_fn Tryz.func64 (by kernel_rfl) rfl args w
theorem Tryz.en65 (args : Array Value) (w : World) : (callFunc 65 args).run Tryz.prog w = .ok (.enter 65 args) w := enters_fn Tryz.func65 (by kernel_rfl) rfl args w
theorem Tryz.en66 (args : Array Value) (w : World) : (callFunc 66 args).run Tryz.prog w = .ok (.enter 66 args) w := enters_fn Tryz.func66 (by kernel_rfl) rfl args w
theorem Tryz.en67 (args : Array Value) (w : World) : (callFunc 67 args).run Tryz.prog w = .ok (.enter 67 args) w := enters_fn Tryz.func67 (by kernel_rfl) rfl args w
theorem Tryz.en68 (args : Array Value) (w : World) : (callFunc 68 args).run Tryz.prog w = .ok (.enter 68 args) w := enters_fn Tryz.func68 (by kernel_rfl) rfl args w
theorem Tryz.en69 (args : Array Value) (w : World) : (callFunc 69 args).run Tryz.prog w = .ok (.enter 69 args) w := enters_fn Tryz.func69 (by kernel_rfl) rfl args w
theorem Tryz.en70 (args : Array Value) (w : World) : (callFunc 70 args).run Tryz.prog w = .ok (.enter 70 args) w := enters_fn Tryz.func70 (by kernel_rfl) rfl args w
theorem Tryz.en71 (args : Array Value) (w : World) : (callFunc 71 args).run Tryz.prog w = .ok (.enter 71 args) w := enters_fn Tryz.func71 (by kernel_rfl) rfl args w
theorem Tryz.en72 (args : Array Value) (w : World) : (callFunc 72 args).run Tryz.prog w = .ok (.enter 72 args) w := enters_fn Tryz.func72 (by kernel_rfl) rfl args w
theorem Tryz.en73 (args : Array Value) (w : World) : (callFunc 73 args).run Tryz.prog w = .ok (.enter 73 args) w := enters_fn Tryz.func73 (by kernel_rfl) rfl args w
theorem Tryz.en74 (args : Array Value) (w : World) : (callFunc 74 args).run Tryz.prog w = .ok (.enter 74 args) w := enters_fn Tryz.func74 (by kernel_rfl) rfl args w
theorem Tryz.en75 (args : Array Value) (w : World) : (callFunc 75 args).run Tryz.prog w = .ok (.enter 75 args) w := enters_fn Tryz.func75 (by kernel_rfl) rfl args w
theorem Tryz.en76 (args : Array Value) (w : World) : (callFunc 76 args).run Tryz.prog w = .ok (.enter 76 args) w := enters_fn Tryz.func76 (by kernel_rfl) rfl args w
theorem Tryz.en77 (args : Array Value) (w : World) : (callFunc 77 args).run Tryz.prog w = .ok (.enter 77 args) w := enters_fn Tryz.func77 (by kernel_rfl) rfl args w
theorem Tryz.en78 (args : Array Value) (w : World) : (callFunc 78 args).run Tryz.prog w = .ok (.enter 78 args) w := enters_fn Tryz.func78 (by kernel_rfl) rfl args w
theorem Tryz.en79 (args : Array Value) (w : World) : (callFunc 79 args).run Tryz.prog w = .ok (.enter 79 args) w := enters_fn Tryz.func79 (by kernel_rfl) rfl args w
theorem Tryz.en80 (args : Array Value) (w : World) : (callFunc 80 args).run Tryz.prog w = .ok (.enter 80 args) w := enters_fn Tryz.func80 (by kernel_rfl) rfl args w
theorem Tryz.en81 (args : Array Value) (w : World) : (callFunc 81 args).run Tryz.prog w = .ok (.enter 81 args) w := enters_fn Tryz.func81 (by kernel_rfl) rfl args w
theorem Tryz.en82 (args : Array Value) (w : World) : (callFunc 82 args).run Tryz.prog w = .ok (.enter 82 args) w := enters_fn Tryz.func82 (by kernel_rfl) rfl args w
theorem Tryz.en83 (args : Array Value) (w : World) : (callFunc 83 args).run Tryz.prog w = .ok (.enter 83 args) w := enters_fn Tryz.func83 (by kernel_rfl) rfl args w
theorem Tryz.en84 (args : Array Value) (w : World) : (callFunc 84 args).run Tryz.prog w = .ok (.enter 84 args) w := enters_fn Tryz.func84 (by kernel_rfl) rfl args w
theorem Tryz.en85 (args : Array Value) (w : World) : (callFunc 85 args).run Tryz.prog w = .ok (.enter 85 args) w := enters_fn Tryz.func85 (by kernel_rfl) rfl args w
theorem Tryz.en86 (args : Array Value) (w : World) : (callFunc 86 args).run Tryz.prog w = .ok (.enter 86 args) w := enters_fn Tryz.func86 (by kernel_rfl) rfl args w
theorem Tryz.en87 (args : Array Value) (w : World) : (callFunc 87 args).run Tryz.prog w = .ok (.enter 87 args) w := enters_fn Tryz.func87 (by kernel_rfl) rfl args w
theorem Tryz.en88 (args : Array Value) (w : World) : (callFunc 88 args).run Tryz.prog w = .ok (.enter 88 args) w := enters_fn Tryz.func88 (by kernel_rfl) rfl args w
theorem Tryz.en89 (args : Array Value) (w : World) : (callFunc 89 args).run Tryz.prog w = .ok (.enter 89 args) w := enters_fn Tryz.func89 (by kernel_rfl) rfl args w
theorem Tryz.en90 (args : Array Value) (w : World) : (callFunc 90 args).run Tryz.prog w = .ok (.enter 90 args) w := enters_fn Tryz.func90 (by kernel_rfl) rfl args w
theorem Tryz.en91 (args : Array Value) (w : World) : (callFunc 91 args).run Tryz.prog w = .ok (.enter 91 args) w := enters_fn Tryz.func91 (by kernel_rfl) rfl args w
theorem Tryz.en92 (args : Array Value) (w : World) : (callFunc 92 args).run Tryz.prog w = .ok (.enter 92 args) w := enters_fn Tryz.func92 (by kernel_rfl) rfl args w
theorem Tryz.en93 (args : Array Value) (w : World) : (callFunc 93 args).run Tryz.prog w = .ok (.enter 93 args) w := enters_fn Tryz.func93 (by kernel_rfl) rfl args w
theorem Tryz.en94 (args : Array Value) (w : World) : (callFunc 94 args).run Tryz.prog w = .ok (.enter 94 args) w := enters_fn Tryz.func94 (by kernel_rfl) rfl args w
theorem Tryz.en95 (args : Array Value) (w : World) : (callFunc 95 args).run Tryz.prog w = .ok (.enter 95 args) w := enters_fn Tryz.func95 (by kernel_rfl) rfl args w
theorem Tryz.en96 (args : Array Value) (w : World) : (callFunc 96 args).run Tryz.prog w = .ok (.enter 96 args) w := enters_fn Tryz.func96 (by kernel_rfl) rfl args w
theorem Tryz.en97 (args : Array Value) (w : World) : (callFunc 97 args).run Tryz.prog w = .ok (.enter 97 args) w := enters_fn Tryz.func97 (by kernel_rfl) rfl args w
theorem Tryz.en98 (args : Array Value) (w : World) : (callFunc 98 args).run Tryz.prog w = .ok (.enter 98 args) w := enters_fn Tryz.func98 (by kernel_rfl) rfl args w
theorem Tryz.en99 (args : Array Value) (w : World) : (callFunc 99 args).run Tryz.prog w = .ok (.enter 99 args) w := enters_fn Tryz.func99 (by kernel_rfl) rfl args w
theorem Tryz.en100 (args : Array Value) (w : World) : (callFunc 100 args).run Tryz.prog w = .ok (.enter 100 args) w := enters_fn Tryz.func100 (by kernel_rfl) rfl args w
theorem Tryz.en101 (args : Array Value) (w : World) : (callFunc 101 args).run Tryz.prog w = .ok (.enter 101 args) w := enters_fn Tryz.func101 (by kernel_rfl) rfl args w
theorem Tryz.en102 (args : Array Value) (w : World) : (callFunc 102 args).run Tryz.prog w = .ok (.enter 102 args) w := enters_fn Tryz.func102 (by kernel_rfl) rfl args w
theorem Tryz.en103 (args : Array Value) (w : World) : (callFunc 103 args).run Tryz.prog w = .ok (.enter 103 args) w := enters_fn Tryz.func103 (by kernel_rfl) rfl args w
theorem Tryz.en104 (args : Array Value) (w : World) : (callFunc 104 args).run Tryz.prog w = .ok (.enter 104 args) w := enters_fn Tryz.func104 (by kernel_rfl) rfl args w
theorem Tryz.en105 (args : Array Value) (w : World) : (callFunc 105 args).run Tryz.prog w = .ok (.enter 105 args) w := enters_fn Tryz.func105 (by kernel_rfl) rfl args w
theorem Tryz.en106 (args : Array Value) (w : World) : (callFunc 106 args).run Tryz.prog w = .ok (.enter 106 args) w := enters_fn Tryz.func106 (by kernel_rfl) rfl args w
theorem Tryz.en107 (args : Array Value) (w : World) : (callFunc 107 args).run Tryz.prog w = .ok (.enter 107 args) w := enters_fn Tryz.func107 (by kernel_rfl) rfl args w
theorem Tryz.en108 (args : Array Value) (w : World) : (callFunc 108 args).run Tryz.prog w = .ok (.enter 108 args) w := enters_fn Tryz.func108 (by kernel_rfl) rfl args w
theorem Tryz.en109 (args : Array Value) (w : World) : (callFunc 109 args).run Tryz.prog w = .ok (.enter 109 args) w := enters_fn Tryz.func109 (by kernel_rfl) rfl args w
theorem Tryz.en110 (args : Array Value) (w : World) : (callFunc 110 args).run Tryz.prog w = .ok (.enter 110 args) w := enters_fn Tryz.func110 (by kernel_rfl) rfl args w
theorem Tryz.en111 (args : Array Value) (w : World) : (callFunc 111 args).run Tryz.prog w = .ok (.enter 111 args) w := enters_fn Tryz.func111 (by kernel_rfl) rfl args w
theorem Tryz.en112 (args : Array Value) (w : World) : (callFunc 112 args).run Tryz.prog w = .ok (.enter 112 args) w := enters_fn Tryz.func112 (by kernel_rfl) rfl args w
theorem Tryz.en113 (args : Array Value) (w : World) : (callFunc 113 args).run Tryz.prog w = .ok (.enter 113 args) w := enters_fn Tryz.func113 (by kernel_rfl) rfl args w
theorem Tryz.en114 (args : Array Value) (w : World) : (callFunc 114 args).run Tryz.prog w = .ok (.enter 114 args) w := enters_fn Tryz.func114 (by kernel_rfl) rfl args w
theorem Tryz.en115 (args : Array Value) (w : World) : (callFunc 115 args).run Tryz.prog w = .ok (.enter 115 args) w := enters_fn Tryz.func115 (by kernel_rfl) rfl args w
theorem Tryz.en116 (args : Array Value) (w : World) : (callFunc 116 args).run Tryz.prog w = .ok (.enter 116 args) w := enters_fn Tryz.func116 (by kernel_rfl) rfl args w
theorem Tryz.en117 (args : Array Value) (w : World) : (callFunc 117 args).run Tryz.prog w = .ok (.enter 117 args) w := enters_fn Tryz.func117 (by kernel_rfl) rfl args w
theorem Tryz.en118 (args : Array Value) (w : World) : (callFunc 118 args).run Tryz.prog w = .ok (.enter 118 args) w := enters_fn Tryz.func118 (by kernel_rfl) rfl args w
theorem Tryz.en119 (args : Array Value) (w : World) : (callFunc 119 args).run Tryz.prog w = .ok (.enter 119 args) w := enters_fn Tryz.func119 (by kernel_rfl) rfl args w
theorem Tryz.en120 (args : Array Value) (w : World) : (callFunc 120 args).run Tryz.prog w = .ok (.enter 120 args) w := enters_fn Tryz.func120 (by kernel_rfl) rfl args w
theorem Tryz.en121 (args : Array Value) (w : World) : (callFunc 121 args).run Tryz.prog w = .ok (.enter 121 args) w := enters_fn Tryz.func121 (by kernel_rfl) rfl args w
theorem Tryz.en122 (args : Array Value) (w : World) : (callFunc 122 args).run Tryz.prog w = .ok (.enter 122 args) w := enters_fn Tryz.func122 (by kernel_rfl) rfl args w
theorem Tryz.en123 (args : Array Value) (w : World) : (callFunc 123 args).run Tryz.prog w = .ok (.enter 123 args) w := enters_fn Tryz.func123 (by kernel_rfl) rfl args w
theorem Tryz.en124 (args : Array Value) (w : World) : (callFunc 124 args).run Tryz.prog w = .ok (.enter 124 args) w := enters_fn Tryz.func124 (by kernel_rfl) rfl args w
theorem Tryz.en125 (args : Array Value) (w : World) : (callFunc 125 args).run Tryz.prog w = .ok (.enter 125 args) w := enters_fn Tryz.func125 (by kernel_rfl) rfl args w
theorem Tryz.en126 (args : Array Value) (w : World) : (callFunc 126 args).run Tryz.prog w = .ok (.enter 126 args) w := enters_fn Tryz.func126 (by kernel_rfl) rfl args w
theorem Tryz.en129 (args : Array Value) (w : World) : (callFunc 129 args).run Tryz.prog w = .ok (.enter 129 args) w := enters_fn Tryz.func129 (by kernel_rfl) rfl args w
theorem Tryz.en130 (args : Array Value) (w : World) : (callFunc 130 args).run Tryz.prog w = .ok (.enter 130 args) w := enters_fn Tryz.func130 (by kernel_rfl) rfl args w
theorem Tryz.en131 (args : Array Value) (w : World) : (callFunc 131 args).run Tryz.prog w = .ok (.enter 131 args) w := enters_fn Tryz.func131 (by kernel_rfl) rfl args w
theorem Tryz.en132 (args : Array Value) (w : World) : (callFunc 132 args).run Tryz.prog w = .ok (.enter 132 args) w := enters_fn Tryz.func132 (by kernel_rfl) rfl args w
theorem Tryz.en133 (args : Array Value) (w : World) : (callFunc 133 args).run Tryz.prog w = .ok (.enter 133 args) w := enters_fn Tryz.func133 (by kernel_rfl) rfl args w
theorem Tryz.en134 (args : Array Value) (w : World) : (callFunc 134 args).run Tryz.prog w = .ok (.enter 134 args) w := enters_fn Tryz.func134 (by kernel_rfl) rfl args w
theorem Tryz.en135 (args : Array Value) (w : World) : (callFunc 135 args).run Tryz.prog w = .ok (.enter 135 args) w := enters_fn Tryz.func135 (by kernel_rfl) rfl args w
theorem Tryz.en136 (args : Array Value) (w : World) : (callFunc 136 args).run Tryz.prog w = .ok (.enter 136 args) w := enters_fn Tryz.func136 (by kernel_rfl) rfl args w
theorem Tryz.en138 (args : Array Value) (w : World) : (callFunc 138 args).run Tryz.prog w = .ok (.enter 138 args) w := enters_fn Tryz.func138 (by kernel_rfl) rfl args w
theorem Tryz.en139 (args : Array Value) (w : World) : (callFunc 139 args).run Tryz.prog w = .ok (.enter 139 args) w := enters_fn Tryz.func139 (by kernel_rfl) rfl args w
theorem Tryz.en140 (args : Array Value) (w : World) : (callFunc 140 args).run Tryz.prog w = .ok (.enter 140 args) w := enters_fn Tryz.func140 (by kernel_rfl) rfl args w
theorem Tryz.en152 (args : Array Value) (w : World) : (callFunc 152 args).run Tryz.prog w = .ok (.enter 152 args) w := enters_fn Tryz.func152 (by kernel_rfl) rfl args w
theorem Tryz.en153 (args : Array Value) (w : World) : (callFunc 153 args).run Tryz.prog w = .ok (.enter 153 args) w := enters_fn Tryz.func153 (by kernel_rfl) rfl args w
theorem Tryz.en154 (args : Array Value) (w : World) : (callFunc 154 args).run Tryz.prog w = .ok (.enter 154 args) w := enters_fn Tryz.func154 (by kernel_rfl) rfl args w
theorem Tryz.en155 (args : Array Value) (w : World) : (callFunc 155 args).run Tryz.prog w = .ok (.enter 155 args) w := enters_fn Tryz.func155 (by kernel_rfl) rfl args w
theorem Tryz.en156 (args : Array Value) (w : World) : (callFunc 156 args).run Tryz.prog w = .ok (.enter 156 args) w := enters_fn Tryz.func156 (by kernel_rfl) rfl args w
theorem Tryz.en157 (args : Array Value) (w : World) : (callFunc 157 args).run Tryz.prog w = .ok (.enter 157 args) w := enters_fn Tryz.func157 (by kernel_rfl) rfl args w
theorem Tryz.en158 (args : Array Value) (w : World) : (callFunc 158 args).run Tryz.prog w = .ok (.enter 158 args) w := enters_fn Tryz.func158 (by kernel_rfl) rfl args w
theorem Tryz.en159 (args : Array Value) (w : World) : (callFunc 159 args).run Tryz.prog w = .ok (.enter 159 args) w := enters_fn Tryz.func159 (by kernel_rfl) rfl args w
theorem Tryz.en160 (args : Array Value) (w : World) : (callFunc 160 args).run Tryz.prog w = .ok (.enter 160 args) w := enters_fn Tryz.func160 (by kernel_rfl) rfl args w
theorem Tryz.en162 (args : Array Value) (w : World) : (callFunc 162 args).run Tryz.prog w = .ok (.enter 162 args) w := enters_fn Tryz.func162 (by kernel_rfl) rfl args w
theorem Tryz.en168 (args : Array Value) (w : World) : (callFunc 168 args).run Tryz.prog w = .ok (.enter 168 args) w := enters_fn Tryz.func168 (by kernel_rfl) rfl args w
theorem Tryz.en169 (args : Array Value) (w : World) : (callFunc 169 args).run Tryz.prog w = .ok (.enter 169 args) w := enters_fn Tryz.func169 (by kernel_rfl) rfl args w
theorem Tryz.en170 (args : Array Value) (w : World) : (callFunc 170 args).run Tryz.prog w = .ok (.enter 170 args) w := enters_fn Tryz.func170 (by kernel_rfl) rfl args w
theorem Tryz.en172 (args : Array Value) (w : World) : (callFunc 172 args).run Tryz.prog w = .ok (.enter 172 args) w := enters_fn Tryz.func172 (by kernel_rfl) rfl args w
theorem Tryz.en173 (args : Array Value) (w : World) : (callFunc 173 args).run Tryz.prog w = .ok (.enter 173 args) w := enters_fn Tryz.func173 (by kernel_rfl) rfl args w
theorem Tryz.en174 (args : Array Value) (w : World) : (callFunc 174 args).run Tryz.prog w = .ok (.enter 174 args) w := enters_fn Tryz.func174 (by kernel_rfl) rfl args w
theorem Tryz.en175 (args : Array Value) (w : World) : (callFunc 175 args).run Tryz.prog w = .ok (.enter 175 args) w := enters_fn Tryz.func175 (by kernel_rfl) rfl args w
theorem Tryz.places24 (w : World) : (placesOf 24).run Tryz.prog w = .ok #[(0, 1), (1, 1), (2, 1), (3, 1), (4, 1), (5, 1), (6, 1)] w := by kernel_rfl
theorem Tryz.places27 (w : World) : (placesOf 27).run Tryz.prog w = .ok #[(0, 1), (1, 1), (2, 1), (3, 1), (4, 1), (5, 1), (6, 1), (7, 1), (8, 1), (9, 1), (10, 1)] w := by kernel_rfl
theorem Tryz.places35 (w : World) : (placesOf 35).run Tryz.prog w = .ok #[(0, 1), (1, 1), (2, 1), (3, 1), (4, 1), (5, 1), (6, 1), (7, 1), (8, 1), (9, 1), (10, 1), (11, 1), (12, 1), (13, 1), (14, 1), (15, 1), (16, 1), (17, 1), (18, 1)] w := by kernel_rfl
theorem Tryz.places66 (w : World) : (placesOf 66).run Tryz.prog w = .ok #[(0, 1), (1, 1)] w := by kernel_rfl
theorem Tryz.places74 (w : World) : (placesOf 74).run Tryz.prog w = .ok #[(0, 19), (19, 1)] w := by kernel_rfl
theorem Tryz.places77 (w : World) : (placesOf 77).run Tryz.prog w = .ok #[] w := by kernel_rfl
theorem Tryz.places103 (w : World) : (placesOf 103).run Tryz.prog w = .ok #[(0, 2)] w := by kernel_rfl
theorem Tryz.places109 (w : World) : (placesOf 109).run Tryz.prog w = .ok #[(0, 1), (1, 1), (2, 1), (3, 1)] w := by kernel_rfl
theorem Tryz.places122 (w : World) : (placesOf 122).run Tryz.prog w = .ok #[(0, 1), (1, 1), (2, 1)] w := by kernel_rfl
theorem Tryz.places135 (w : World) : (placesOf 135).run Tryz.prog w = .ok #[(0, 1), (1, 1), (2, 1)] w := by kernel_rfl
end Go.Proofs
end
section
namespace Go.Proofs
open Go.Wx Go.ChangeShapes Go.WideShapes Go.RowKit
theorem Tryz.elAct {H : Type} {enc : TypeId × Value → H} {w : World} {b : Nat} {sp : Nat → Bool} {hd : Bool} (n : Nat) (cs : List Value) (x : DataW H × List MemPlace) (hl : cs.length = 7) (h : DataW.trod enc Tryz.prog w b sp hd n 24 cs = some x) : ∃ f : GAct, cs = f.cells.toList ∧ AOk f := by
  have k_int : Tryz.prog.cellsOf 3 = 1 := by kernel_rfl
  match cs, hl with
  | [c0, c1, c2, c3, c4, c5, c6], _ =>
    obtain ⟨xs, n, _, hx, _, hlen, hg⟩ := DataW.trod_struct Tryz.underlying24 h
    match xs, hlen with
    | [y0, y1, y2, y3, y4, y5, y6], _ =>
      obtain ⟨n0, e0, _, q0⟩ := DataW.trod_int Tryz.underlying3 (show DataW.trod enc Tryz.prog w b sp hd n 3 [c0] = some y0 from by simpa [k_int] using hg 0 _ rfl)
      obtain ⟨n1, e1, _, q1⟩ := DataW.trod_int Tryz.underlying3 (show DataW.trod enc Tryz.prog w b sp hd n 3 [c1] = some y1 from by simpa [k_int] using hg 1 _ rfl)
      obtain ⟨n2, e2, _, q2⟩ := DataW.trod_int Tryz.underlying3 (show DataW.trod enc Tryz.prog w b sp hd n 3 [c2] = some y2 from by simpa [k_int] using hg 2 _ rfl)
      obtain ⟨n3, e3, _, q3⟩ := DataW.trod_int Tryz.underlying3 (show DataW.trod enc Tryz.prog w b sp hd n 3 [c3] = some y3 from by simpa [k_int] using hg 3 _ rfl)
      obtain ⟨n4, e4, _, q4⟩ := DataW.trod_int Tryz.underlying3 (show DataW.trod enc Tryz.prog w b sp hd n 3 [c4] = some y4 from by simpa [k_int] using hg 4 _ rfl)
      obtain ⟨n5, e5, _, q5⟩ := DataW.trod_int Tryz.underlying3 (show DataW.trod enc Tryz.prog w b sp hd n 3 [c5] = some y5 from by simpa [k_int] using hg 5 _ rfl)
      obtain ⟨n6, e6, _, q6⟩ := DataW.trod_int Tryz.underlying3 (show DataW.trod enc Tryz.prog w b sp hd n 3 [c6] = some y6 from by simpa [k_int] using hg 6 _ rfl)
      cases e0
      cases e1
      cases e2
      cases e3
      cases e4
      cases e5
      cases e6
      exact ⟨⟨n0, n1, n2, n3, n4, n5, n6⟩, rfl, ⟨wf_inI q0, wf_inI q1, wf_inI q2, wf_inI q3, wf_inI q4, wf_inI q5, wf_inI q6⟩⟩
set_option maxRecDepth 100000 in
theorem Tryz.argAct {H : Type} {enc : TypeId × Value → H} {w : World} {b b0 : Nat} {sp : Nat → Bool} {hd : Bool} {r : Reach} {v : Value} {d : DataW H} {p : List MemPlace} (hv : Value.okWide Tryz.prog w r b0 24 v) (h : DataW.Trod enc Tryz.prog w b sp hd 24 v d p) : ∃ f : GAct, v = .agg f.cells ∧ AOk f := by
  obtain ⟨cs, rfl, hsz⟩ := okWide_struct Tryz.underlying24 hv
  obtain ⟨fuel, hf⟩ := h
  have hc : Tryz.prog.cellsOf 24 = 7 := by kernel_rfl
  obtain ⟨f, e, g⟩ := Tryz.elAct fuel cs.toList _ (by rw [Array.length_toList, hsz, hc]) hf
  exact ⟨f, by rw [Array.toList_inj.1 e], g⟩
theorem Tryz.elFact {H : Type} {enc : TypeId × Value → H} {w : World} {b : Nat} {sp : Nat → Bool} {hd : Bool} (n : Nat) (cs : List Value) (x : DataW H × List MemPlace) (hl : cs.length = 19) (h : DataW.trod enc Tryz.prog w b sp hd n 35 cs = some x) : ∃ f : Fact, cs = f.cells.toList ∧ FOk f := by
  have k_bool : Tryz.prog.cellsOf 4 = 1 := by kernel_rfl
  have k_int : Tryz.prog.cellsOf 3 = 1 := by kernel_rfl
  have k_string : Tryz.prog.cellsOf 9 = 1 := by kernel_rfl
  match cs, hl with
  | [c0, c1, c2, c3, c4, c5, c6, c7, c8, c9, c10, c11, c12, c13, c14, c15, c16, c17, c18], _ =>
    obtain ⟨xs, n, _, hx, _, hlen, hg⟩ := DataW.trod_struct Tryz.underlying35 h
    match xs, hlen with
    | [y0, y1, y2, y3, y4, y5, y6, y7, y8, y9, y10, y11, y12, y13, y14, y15, y16, y17, y18], _ =>
      obtain ⟨n0, e0, _, q0⟩ := DataW.trod_int Tryz.underlying3 (show DataW.trod enc Tryz.prog w b sp hd n 3 [c0] = some y0 from by simpa [k_int] using hg 0 _ rfl)
      obtain ⟨n1, e1, _, q1⟩ := DataW.trod_int Tryz.underlying3 (show DataW.trod enc Tryz.prog w b sp hd n 3 [c1] = some y1 from by simpa [k_int] using hg 1 _ rfl)
      obtain ⟨n2, e2, _, q2⟩ := DataW.trod_int Tryz.underlying3 (show DataW.trod enc Tryz.prog w b sp hd n 3 [c2] = some y2 from by simpa [k_int] using hg 2 _ rfl)
      obtain ⟨n3, e3, _, q3⟩ := DataW.trod_int Tryz.underlying3 (show DataW.trod enc Tryz.prog w b sp hd n 3 [c3] = some y3 from by simpa [k_int] using hg 3 _ rfl)
      obtain ⟨n4, e4, _⟩ := DataW.trod_bool Tryz.underlying4 (show DataW.trod enc Tryz.prog w b sp hd n 4 [c4] = some y4 from by simpa [k_bool] using hg 4 _ rfl)
      obtain ⟨n5, e5, _, q5⟩ := DataW.trod_int Tryz.underlying3 (show DataW.trod enc Tryz.prog w b sp hd n 3 [c5] = some y5 from by simpa [k_int] using hg 5 _ rfl)
      obtain ⟨n6, e6, _, q6⟩ := DataW.trod_int Tryz.underlying3 (show DataW.trod enc Tryz.prog w b sp hd n 3 [c6] = some y6 from by simpa [k_int] using hg 6 _ rfl)
      obtain ⟨n7, e7, _, q7⟩ := DataW.trod_int Tryz.underlying3 (show DataW.trod enc Tryz.prog w b sp hd n 3 [c7] = some y7 from by simpa [k_int] using hg 7 _ rfl)
      obtain ⟨n8, e8, _, q8⟩ := DataW.trod_int Tryz.underlying3 (show DataW.trod enc Tryz.prog w b sp hd n 3 [c8] = some y8 from by simpa [k_int] using hg 8 _ rfl)
      obtain ⟨n9, e9, _, q9⟩ := DataW.trod_int Tryz.underlying3 (show DataW.trod enc Tryz.prog w b sp hd n 3 [c9] = some y9 from by simpa [k_int] using hg 9 _ rfl)
      obtain ⟨n10, e10, _, q10⟩ := DataW.trod_int Tryz.underlying3 (show DataW.trod enc Tryz.prog w b sp hd n 3 [c10] = some y10 from by simpa [k_int] using hg 10 _ rfl)
      obtain ⟨n11, e11, _, q11⟩ := DataW.trod_int Tryz.underlying3 (show DataW.trod enc Tryz.prog w b sp hd n 3 [c11] = some y11 from by simpa [k_int] using hg 11 _ rfl)
      obtain ⟨n12, e12, _, q12⟩ := DataW.trod_int Tryz.underlying3 (show DataW.trod enc Tryz.prog w b sp hd n 3 [c12] = some y12 from by simpa [k_int] using hg 12 _ rfl)
      obtain ⟨n13, e13, _, q13⟩ := DataW.trod_int Tryz.underlying3 (show DataW.trod enc Tryz.prog w b sp hd n 3 [c13] = some y13 from by simpa [k_int] using hg 13 _ rfl)
      obtain ⟨n14, e14, _, q14⟩ := DataW.trod_int Tryz.underlying3 (show DataW.trod enc Tryz.prog w b sp hd n 3 [c14] = some y14 from by simpa [k_int] using hg 14 _ rfl)
      obtain ⟨n15, e15, _, q15⟩ := DataW.trod_int Tryz.underlying3 (show DataW.trod enc Tryz.prog w b sp hd n 3 [c15] = some y15 from by simpa [k_int] using hg 15 _ rfl)
      obtain ⟨n16, e16, _, q16⟩ := DataW.trod_int Tryz.underlying3 (show DataW.trod enc Tryz.prog w b sp hd n 3 [c16] = some y16 from by simpa [k_int] using hg 16 _ rfl)
      obtain ⟨n17, e17, _, q17⟩ := DataW.trod_int Tryz.underlying3 (show DataW.trod enc Tryz.prog w b sp hd n 3 [c17] = some y17 from by simpa [k_int] using hg 17 _ rfl)
      obtain ⟨n18, e18, _, s18⟩ := DataW.trod_string Tryz.underlying9 (show DataW.trod enc Tryz.prog w b sp hd n 9 [c18] = some y18 from by simpa [k_string] using hg 18 _ rfl)
      cases e0
      cases e1
      cases e2
      cases e3
      cases e4
      cases e5
      cases e6
      cases e7
      cases e8
      cases e9
      cases e10
      cases e11
      cases e12
      cases e13
      cases e14
      cases e15
      cases e16
      cases e17
      cases e18
      exact ⟨⟨n0, n1, n2, n3, n4, n5, n6, n7, n8, n9, n10, n11, n12, n13, n14, n15, n16, n17, n18⟩, rfl, ⟨wf_inI q0, wf_inI q1, wf_inI q2, wf_inI q3, wf_inI q5, wf_inI q6, wf_inI q7, wf_inI q8, wf_inI q9, wf_inI q10, wf_inI q11, wf_inI q12, wf_inI q13, wf_inI q14, wf_inI q15, wf_inI q16, wf_inI q17, s18⟩⟩
end Go.Proofs
end
section
namespace Go.Wx
open Go.RowKit
section
variable {R : Option Nat} {m : Nat} {P : Program} {n : Nat} {ds : List Deferred} {Q : Exit → Go.Act → World → Prop} {l : Env} {w : World} {ops : Array Oper}
def isMove (o : Oper) : Bool := match o.op with | .move _ => o.guard.isNone | _ => false
def lateAt (ops : Array Oper) (k j : Nat) : Bool := match ops[j]? with
  | none => false
  | some o => isMove o && ((o.looksAt ops).all fun t => (List.range (k + 1)).all fun i => match ops[i]? with | none => true | some p => !(p.dst == some t)) &&
      (match ops[k]? with | none => false | some h => match o.dst with | none => false | some d => !memb (h.looksAt ops) d)
def lateOK (ops : Array Oper) (k : Nat) : Bool :=
  (List.range k).all fun j => lateAt ops k j || (List.range (k + 1)).any fun i => Nat.ble (j + 1) i && ((Nat.beq i k || !lateAt ops k i) && (match ops[i]? with | none => false | some o => o.after.any fun e => Region.binds .any e && Nat.beq e.on j))
theorem heavy_all {k : Nat} (hC : lateOK ops k = true) {listed : Array Bool} (hD : Dn ops listed) {o : Oper} (ho : ops[k]? = some o) (hk : ∀ e ∈ o.after, Region.binds .any e = true → listed.getD e.on false = true) : ∀ (c j : Nat), k - j = c → j < k → lateAt ops k j = false → listed.getD j false = true := by
  intro c
  induction c using Nat.strongRecOn with
  | _ c ih =>
    intro j hc hj hl
    have h0 := List.all_eq_true.1 hC j (List.mem_range.2 hj)
    rw [hl, Bool.false_or] at h0
    obtain ⟨i, hi, hh⟩ := List.any_eq_true.1 h0
    simp only [Bool.and_eq_true, Bool.or_eq_true] at hh
    have hji : j < i := Nat.le_of_ble_eq_true hh.1
    have hik : i < k + 1 := List.mem_range.1 hi
    cases hio : ops[i]? with
    | none => simp [hio] at hh
    | some q =>
      have h2 := hh.2.2
      simp only [hio] at h2
      obtain ⟨e, he, hb⟩ := Array.any_eq_true.1 h2
      simp only [Bool.and_eq_true] at hb
      have hon := Nat.eq_of_beq_eq_true hb.2
      by_cases hek : i = k
      · subst hek
        rw [ho] at hio
        cases hio
        rw [← hon]; exact hk _ (Array.getElem_mem he) hb.1
      · have hli : lateAt ops k i = false := by
          rcases hh.2.1 with h3 | h3
          · exact absurd (Nat.eq_of_beq_eq_true h3) hek
          · simpa using h3
        have := ih (k - i) (by omega) i rfl (by omega) hli
        rw [← hon]; exact hD i q hio this _ (Array.getElem_mem he) hb.1
theorem late_parts {k j : Nat} (h : lateAt ops k j = true) : ∃ o x, ops[j]? = some o ∧ o.op = .move x ∧ o.guard = none ∧ (∀ t ∈ o.looksAt ops, ∀ (i : Nat) (p : Oper), i < k + 1 → ops[i]? = some p → p.dst ≠ some t) ∧ ∀ (hh : Oper) (d : Nat), ops[k]? = some hh → o.dst = some d → d ∉ hh.looksAt ops := by
  unfold lateAt at h
  cases ho : ops[j]? with
  | none => simp [ho] at h
  | some o =>
    simp only [ho, Bool.and_eq_true] at h
    obtain ⟨⟨h1, h2⟩, h3⟩ := h
    unfold isMove at h1
    split at h1
    · rename_i x hx
      refine ⟨o, x, rfl, hx, by simpa using h1, fun t ht i p hi hp hd => ?_, fun hh d hk hd hm => ?_⟩
      · have := List.all_eq_true.1 (List.all_eq_true.1 h2 t ht) i (List.mem_range.2 hi)
        simp [hp, hd] at this
      · simp only [hk, hd] at h3
        rw [memb_iff.2 hm] at h3
        cases h3
    · cases h1
def dropPreds : Env → Env
  | [] => []
  | (_, .pred _) :: l => dropPreds l
  | (i, .eq v) :: l => (i, .eq v) :: dropPreds l
  | (i, .cond b v) :: l => (i, .cond b v) :: dropPreds l
def plainPh : Ph → Prop
  | .pred _ => False
  | _ => True
theorem plainPh.holds {ph : Ph} (h : plainPh ph) {v : Value} {w w' : World} (k : ph.holds v w) : ph.holds v w' := by
  cases ph with
  | eq => exact k
  | cond => exact k
  | pred => exact h.elim
theorem dropPreds_E {k : Nat} {E : Nat → Env} (hE0 : E 0 = []) (hE : ∀ (i : Nat) (o : Oper), i < k → ops[i]? = some o → ∃ ph d, o.dst = some d ∧ E (i + 1) = (d, ph) :: E i) (hks : k ≤ ops.size) :
    ∀ c i ph, c ≤ k → lk (dropPreds (E c)) i = some ph → ∃ j o, j < c ∧ ops[j]? = some o ∧ o.dst = some i ∧ E (j + 1) = (i, ph) :: E j ∧ plainPh ph := by
  intro c
  induction c with
  | zero => intro i ph _ h; rw [hE0] at h; cases h
  | succ c ih =>
    intro i ph hk h
    have hko : ops[c]? = some ops[c] := by simp [show c < ops.size by omega]
    obtain ⟨q, d, hd, he⟩ := hE c _ (by omega) hko
    rw [he] at h
    have go : lk (dropPreds (E c)) i = some ph → ∃ j o, j < c + 1 ∧ ops[j]? = some o ∧ o.dst = some i ∧ E (j + 1) = (i, ph) :: E j ∧ plainPh ph := fun h => by
      obtain ⟨j, o, h1, h2⟩ := ih i ph (by omega) h
      exact ⟨j, o, by omega, h2⟩
    cases q with
    | pred p => exact go h
    | eq v =>
      by_cases e : i = d
      · subst e
        have h' : lk ((i, Ph.eq v) :: dropPreds (E c)) i = some ph := h
        rw [lk_cons_eq] at h'
        cases h'
        exact ⟨c, _, by omega, hko, hd, he, trivial⟩
      · have h' : lk ((d, Ph.eq v) :: dropPreds (E c)) i = some ph := h
        rw [lk_cons_ne e] at h'
        exact go h'
    | cond b v =>
      by_cases e : i = d
      · subst e
        have h' : lk ((i, Ph.cond b v) :: dropPreds (E c)) i = some ph := h
        rw [lk_cons_eq] at h'
        cases h'
        exact ⟨c, _, by omega, hko, hd, he, trivial⟩
      · have h' : lk ((d, Ph.cond b v) :: dropPreds (E c)) i = some ph := h
        rw [lk_cons_ne e] at h'
        exact go h'
theorem fuel_set {listed : Array Bool} {i fuel : Nat} (hlt : i < listed.size) (hbi : listed.getD i false = false) (hc : listed.toList.countP (· == false) ≤ fuel + 1) : (listed.setIfInBounds i true).toList.countP (· == false) ≤ fuel := by
  have hbi' : listed[i] = false := by
    rw [Array.getD_eq_getD_getElem?] at hbi
    simp only [hlt, Array.getElem?_eq_getElem, Option.getD_some] at hbi
    exact hbi
  rw [Array.toList_setIfInBounds, List.countP_set (by simpa using hlt)]
  have hpos : 0 < listed.toList.countP (· == false) := List.countP_pos_iff.2 ⟨listed[i], by simp, by simp [hbi']⟩
  have e1 : (listed.toList[i]'(by simpa using hlt) == false) = true := by simp [hbi']
  rw [if_pos e1, if_neg (by simp)]
  omega
theorem dn_set {listed : Array Bool} {i : Nat} {o : Oper} (hlt : i < listed.size) (hio : ops[i]? = some o) (hed : ∀ e ∈ o.after, Region.binds .any e = true → listed.getD e.on false = true) (hD : Dn ops listed) : Dn ops (listed.setIfInBounds i true) := by
  intro j p hp hl e he hb
  rw [getD_set hlt] at hl ⊢
  by_cases e1 : e.on = i
  · rw [if_pos e1]
  · rw [if_neg e1]
    by_cases e2 : j = i
    · subst e2
      rw [hio] at hp; cases hp
      exact hed e he hb
    · rw [if_neg e2] at hl
      exact hD j p hp hl e he hb
theorem count_drop {listed : Array Bool} {s fuel : Nat} (hs : listed.size = ops.size) (hc : listed.toList.countP (· == false) ≤ fuel) (hno : ∀ j, s ≤ j → j < ops.size → listed.getD j false = false) : ops.size - s ≤ fuel := by
  have h1 : (listed.toList.drop s).countP (· == false) = ops.size - s := by
    rw [List.countP_eq_length.2]
    · simp [hs]
    · intro b hb
      obtain ⟨j, hj, he⟩ := List.mem_iff_getElem.1 hb
      rw [List.getElem_drop] at he
      have hj' : s + j < listed.size := by simp at hj; omega
      have := hno (s + j) (by omega) (by omega)
      rw [Array.getD_eq_getD_getElem?] at this
      simp only [hj', Array.getElem?_eq_getElem, Option.getD_some] at this
      rw [← he]
      simpa using this
  have h2 : (listed.toList.drop s).countP (· == false) ≤ listed.toList.countP (· == false) := (List.drop_sublist s _).countP_le
  omega
theorem ready_some (hA : aheadOK ops = true) {k : Nat} (hks : k ≤ ops.size) {listed : Array Bool} (hs : listed.size = ops.size) : ∀ c, c < k → listed.getD c false = false → ∃ i, i ∈ Region.ready .any ops listed := by
  intro c
  induction c using Nat.strongRecOn with
  | _ c ihc =>
    intro hck hcf
    have hco : ops[c]? = some ops[c] := by simp [show c < ops.size by omega]
    by_cases hr : ∀ e ∈ (ops[c]).after, Region.binds .any e = true → listed.getD e.on false = true
    · exact ⟨c, (ready_iff hs).2 ⟨_, hco, hcf, hr⟩⟩
    · simp only [Classical.not_forall] at hr
      obtain ⟨e, he, hb, hf⟩ := hr
      have hlt := aheadOK_at hA hco e he hb
      exact ihc e.on hlt (by omega) (by simpa using hf)
theorem late_order {k : Nat} {wp w : World} {w0 : World} {base : Env} {dh : Nat} {vh : Value} (hu : Up w0 wp) (hok : regOKk n ops (k + 1) = true) (hT : tailOK ops (k + 1) = true) (hA : aheadOK ops = true) (hC : closOK ops (k + 1) = true) (hkk : k < ops.size) (E : Nat → Env) (hE0 : E 0 = [])
    (hE : ∀ (i : Nat) (o : Oper), i < k → ops[i]? = some o → ∃ ph d, o.dst = some d ∧ phUp ph ∧ HOp P n ds ops w0 (keepSlots (o.looksAt ops) (E i) ++ base) o ph ∧ E (i + 1) = (d, ph) :: E i)
    (hbp : noPred base = true) (hbase : ∀ i ph, lk base i = some ph → ∀ (j : Nat) (o : Oper), j < k + 1 → ops[j]? = some o → o.dst ≠ some i)
    (hdh : ∀ o, ops[k]? = some o → o.dst = some dh)
    (hQ : ∀ a, Ag n ds ((dh, .eq vh) :: (dropPreds (E k) ++ base)) a w → wpListIn (FR R) m P ops Q (ops.toList.drop (k + 1)) a w) :
    ∀ (fuel : Nat) (listed : Array Bool) (a : Go.Act), listed.size = ops.size → listed.toList.countP (· == false) ≤ fuel → (∀ j, k + 1 ≤ j → j < ops.size → listed.getD j false = false) → listed.getD k false = true → (∀ j, j < k → listed.getD j false = false → lateAt ops k j = true) → Dn ops listed → Ag n ds base a w → a.tmps.getD dh undef = vh →
      (∀ (j : Nat) (o : Oper) (d : Nat) (ph : Ph), j < k → ops[j]? = some o → o.dst = some d → E (j + 1) = (d, ph) :: E j → plainPh ph → listed.getD j false = true → ph.holds (a.tmps.getD d undef) w) →
      wpAnyIn (FR R) m P .any ops Q fuel listed a w := by
  have hE' : ∀ (i : Nat) (o : Oper), i < k → ops[i]? = some o → ∃ ph d, o.dst = some d ∧ E (i + 1) = (d, ph) :: E i := fun i o hi ho => let ⟨ph, d, h1, _, _, h2⟩ := hE i o hi ho; ⟨ph, d, h1, h2⟩
  have hDP := dropPreds_E hE0 hE' (by omega)
  have hfull : ∀ (fuel : Nat) (listed : Array Bool) (a : Go.Act), listed.size = ops.size → listed.toList.countP (· == false) ≤ fuel → (∀ j, k + 1 ≤ j → j < ops.size → listed.getD j false = false) → listed.getD k false = true → (∀ j, j < k → listed.getD j false = true) → Ag n ds base a w → a.tmps.getD dh undef = vh →
      (∀ (j : Nat) (o : Oper) (d : Nat) (ph : Ph), j < k → ops[j]? = some o → o.dst = some d → E (j + 1) = (d, ph) :: E j → plainPh ph → listed.getD j false = true → ph.holds (a.tmps.getD d undef) w) →
      wpAnyIn (FR R) m P .any ops Q fuel listed a w := by
    intro fuel listed a hs hc hno hk hall ha hv hI
    refine tail_order hT hA (ops.size - (k + 1)) (k + 1) fuel listed a w rfl (by omega) (Nat.le_refl _) (count_drop hs hc hno) ⟨hs, fun j hj => ?_⟩ (hQ a ⟨ha.defers, ha.size, fun i ph hi => ?_⟩)
    · by_cases h : j < k + 1
      · rw [decide_eq_true h]
        by_cases e : j = k
        · rw [e]; exact hk
        · exact hall j (by omega)
      · rw [hno j (by omega) hj, decide_eq_false h]
    · by_cases e : i = dh
      · subst e
        rw [lk_cons_eq] at hi
        cases hi
        exact hv
      · rw [lk_cons_ne e] at hi
        rcases lk_append hi with h | h
        · obtain ⟨j, o, hj, ho, hd, he, hp⟩ := hDP _ _ _ (Nat.le_refl _) h
          exact hI j o i ph hj ho hd he hp (hall j hj)
        · exact ha.val i ph h
  have hEl : ∀ c i ph, c ≤ k → lk (E c) i = some ph → ∃ j o, j < c ∧ ops[j]? = some o ∧ o.dst = some i := by
    intro c
    induction c with
    | zero => intro i ph _ h; rw [hE0] at h; cases h
    | succ c ih =>
      intro i ph hk h
      have hko : ops[c]? = some ops[c] := by simp [show c < ops.size by omega]
      obtain ⟨q, d, hd, he⟩ := hE' c _ (by omega) hko
      rw [he] at h
      by_cases e : i = d
      · subst e; exact ⟨c, _, by omega, hko, hd⟩
      · rw [lk_cons_ne e] at h
        obtain ⟨j, o, h1, h2⟩ := ih i ph (by omega) h
        exact ⟨j, o, by omega, h2⟩
  intro fuel
  induction fuel with
  | zero =>
    intro listed a hs hc hno hk hlate hD ha hv hI
    refine hfull 0 listed a hs hc hno hk (fun i hi => ?_) ha hv hI
    have h0 : listed.toList.countP (· == false) = 0 := by omega
    rw [List.countP_eq_zero] at h0
    have hlt : i < listed.size := by omega
    have := h0 listed[i] (by simp)
    rw [Array.getD_eq_getD_getElem?]
    simp only [hlt, Array.getElem?_eq_getElem, Option.getD_some]
    simpa using this
  | succ fuel ih =>
    intro listed a hs hc hno hk hlate hD ha hv hI
    by_cases hall : ∀ j, j < k → listed.getD j false = true
    · exact hfull _ listed a hs hc hno hk hall ha hv hI
    refine ⟨fun hr => ?_, fun i hi => ?_⟩
    · exfalso
      simp only [Classical.not_forall] at hall
      obtain ⟨j, hj, hf⟩ := hall
      obtain ⟨i, hi⟩ := ready_some hA (k := k) (by omega) hs j hj (by simpa using hf)
      rw [hr] at hi
      cases hi
    obtain ⟨o, hio, hbi, hed⟩ := (ready_iff hs).1 hi
    have hi' : i < ops.size := (Array.getElem?_eq_some_iff.1 hio).1
    have hlt : i < listed.size := by omega
    have hik : i < k := by
      rcases Nat.lt_trichotomy i k with h | h | h
      · exact h
      · subst h; rw [hk] at hbi; cases hbi
      · exfalso
        by_cases e : i = k + 1
        · subst e
          exact hall fun j hj => clos_all hC hD hio hed (k + 1 - j) j rfl (by omega)
        · obtain ⟨e', he, hb, hon⟩ := tailOK_at hT hio (show k + 1 < i by omega)
          have h1 := hed e' he hb
          rw [hon, hno (i - 1) (by omega) (by omega)] at h1
          cases h1
    obtain ⟨o', x, ho', hop, hg, hfree, _⟩ := late_parts (hlate i hik hbi)
    rw [hio] at ho'
    cases ho'
    obtain ⟨hd0, hpair⟩ := regOKk_at hok (show i < k + 1 by omega) hio
    obtain ⟨ph, d, hd, hup, hopr, hEi⟩ := hE i o hik hio
    have hdn : d < n := by obtain ⟨d', h1, h2⟩ := hd0; rw [hd] at h1; cases h1; exact h2
    have hag : Ag n ds (keepSlots (o.looksAt ops) (E i) ++ base) a wp := by
      refine ⟨ha.defers, ha.size, fun t q ht => ?_⟩
      rcases lk_append ht with h | h
      · obtain ⟨h1, h2⟩ := keepSlots_lk h
        obtain ⟨j, p, hj, hp, hpd⟩ := hEl _ _ _ (by omega) h2
        exact absurd hpd (hfree t h1 j p (by omega) hp)
      · exact noPred_lk hbp h (ha.val t q h)
    have hne : d ≠ dh := by
      intro e
      have hko : ops[k]? = some ops[k] := by simp [hkk]
      exact (hpair k _ (by omega) hko).1 (by omega) (by rw [hd, hdh _ hko, e])
    have hrun : ∀ ww, (execOp a.eval o).run P ww = .ok (.value (a.eval x)) ww := fun ww => by
      simp only [execOp, hop]; rfl
    have h2 := hopr a wp hu hag
    have hw : Region.wanted o (yielded ops a.tmps) = true := by simp [Region.wanted, hg]
    rw [if_pos hw] at h2
    have hval : ph.holds (a.eval x) wp := by
      rcases h2 with ⟨v, w', h3, h4, h5⟩ | ⟨f, args, w1, h3, _⟩
      · rw [hrun] at h3; cases h3; exact h5
      · rw [hrun] at h3; cases h3
    unfold wpOpIn
    rw [hio]
    dsimp only
    rw [if_pos hw]
    refine wpIn_value (hrun w) (ih _ _ (by simpa using hs) (fuel_set hlt hbi hc) ?_ ?_ ?_ (dn_set hlt hio hed hD) ?_ ?_ ?_)
    · intro j hj hjs
      rw [getD_set hlt, if_neg (by omega)]
      exact hno j hj hjs
    · rw [getD_set hlt]; split <;> first | rfl | exact hk
    · intro j hj hl
      rw [getD_set hlt] at hl
      split at hl
      · cases hl
      · exact hlate j hj hl
    · refine ⟨by rw [hd]; exact ha.defers, by rw [hd]; simp [Go.Act.put, ha.size], fun t q ht => ?_⟩
      have hne' : t ≠ d := fun e => hbase t q ht i o (by omega) hio (by rw [hd, e])
      rw [hd, getD_put_ne hne']
      exact ha.val t q ht
    · rw [hd, getD_put_ne (fun e => hne e.symm)]; exact hv
    · intro j p d' q hjk hp hpd hEj hpl hl
      by_cases e : j = i
      · subst e
        rw [hio] at hp
        cases hp
        rw [hd] at hpd
        cases hpd
        rw [hEi] at hEj
        cases hEj
        rw [hd, getD_put_same (by rw [ha.size]; exact hdn)]
        exact hpl.holds hval
      · have hne' : d' ≠ d := fun ee => (hpair j p (by omega) hp).1 (fun ee => e ee.symm) (by rw [hd, hpd, ee])
        rw [hd, getD_put_ne hne']
        rw [getD_set hlt, if_neg e] at hl
        exact hI j p d' q hjk hp hpd hEj hpl hl
theorem heavy_order {k : Nat} {w0 : World} {base : Env} {dh : Nat} {oh : Oper} {PostH : Value → World → Prop} (hok : regOKk n ops (k + 1) = true) (hT : tailOK ops (k + 1) = true) (hA : aheadOK ops = true) (hC : closOK ops (k + 1) = true) (hL : lateOK ops k = true) (hkk : k < ops.size) (E : Nat → Env) (hE0 : E 0 = [])
    (hE : ∀ (i : Nat) (o : Oper), i < k → ops[i]? = some o → ∃ ph d, o.dst = some d ∧ phUp ph ∧ HOp P n ds ops w0 (keepSlots (o.looksAt ops) (E i) ++ base) o ph ∧ E (i + 1) = (d, ph) :: E i)
    (hbp : noPred base = true) (hbase : ∀ i ph, lk base i = some ph → ∀ (j : Nat) (o : Oper), j < k + 1 → ops[j]? = some o → o.dst ≠ some i)
    (hoh : ops[k]? = some oh) (hdh : oh.dst = some dh) (hgh : oh.guard = none)
    (hH : ∀ a w, Up w0 w → Ag n ds (keepSlots (oh.looksAt ops) (E k) ++ base) a w → OpY P oh a w PostH)
    (hQ : ∀ v w a, PostH v w → Ag n ds ((dh, .eq v) :: (dropPreds (E k) ++ base)) a w → wpListIn (FR R) m P ops Q (ops.toList.drop (k + 1)) a w) :
    ∀ (fuel : Nat) (listed : Array Bool) (a : Go.Act) (w : World), listed.size = ops.size → listed.toList.countP (· == false) ≤ fuel → (∀ j, k ≤ j → j < ops.size → listed.getD j false = false) → Dn ops listed → Up w0 w → Ag n ds base a w →
      (∀ (j : Nat) (o : Oper) (d : Nat) (ph : Ph), j < k → ops[j]? = some o → o.dst = some d → E (j + 1) = (d, ph) :: E j → listed.getD j false = true → ph.holds (a.tmps.getD d undef) w) →
      wpAnyIn (FR R) m P .any ops Q fuel listed a w := by
  have hEl : ∀ c i ph, c ≤ k → lk (E c) i = some ph → ∃ j o, j < c ∧ ops[j]? = some o ∧ o.dst = some i ∧ E (j + 1) = (i, ph) :: E j := by
    intro c
    induction c with
    | zero => intro i ph _ h; rw [hE0] at h; cases h
    | succ c ih =>
      intro i ph hk h
      have hko : ops[c]? = some ops[c] := by simp [show c < ops.size by omega]
      obtain ⟨q, d, hd, _, _, he⟩ := hE c _ (by omega) hko
      rw [he] at h
      by_cases e : i = d
      · subst e
        rw [lk_cons_eq] at h
        cases h
        exact ⟨c, _, by omega, hko, hd, he⟩
      · rw [lk_cons_ne e] at h
        obtain ⟨j, o, h1, h2⟩ := ih i ph (by omega) h
        exact ⟨j, o, by omega, h2⟩
  intro fuel
  induction fuel with
  | zero =>
    intro listed a w hs hc hno hD hu ha hI
    exfalso
    have h0 : listed.toList.countP (· == false) = 0 := by omega
    rw [List.countP_eq_zero] at h0
    have hlt : k < listed.size := by omega
    have := h0 listed[k] (by simp)
    have h1 := hno k (Nat.le_refl _) hkk
    rw [Array.getD_eq_getD_getElem?] at h1
    simp only [hlt, Array.getElem?_eq_getElem, Option.getD_some] at h1
    rw [h1] at this
    simp at this
  | succ fuel ih =>
    intro listed a w hs hc hno hD hu ha hI
    refine ⟨fun hr => ?_, fun i hi => ?_⟩
    · exfalso
      obtain ⟨i, hi⟩ := ready_some hA (k := k + 1) (by omega) hs k (by omega) (hno k (Nat.le_refl _) hkk)
      rw [hr] at hi
      cases hi
    obtain ⟨o, hio, hbi, hed⟩ := (ready_iff hs).1 hi
    have hi' : i < ops.size := (Array.getElem?_eq_some_iff.1 hio).1
    have hlt : i < listed.size := by omega
    have hik : i ≤ k := by
      rcases Nat.lt_or_ge k i with h | h
      · exfalso
        by_cases e : i = k + 1
        · subst e
          have := clos_all hC hD hio hed 1 k (by omega) (by omega)
          rw [hno k (Nat.le_refl _) hkk] at this
          cases this
        · obtain ⟨e', he, hb, hon⟩ := tailOK_at hT hio (show k + 1 < i by omega)
          have h1 := hed e' he hb
          rw [hon, hno (i - 1) (by omega) (by omega)] at h1
          cases h1
      · exact h
    obtain ⟨hd0, hpair⟩ := regOKk_at hok (show i < k + 1 by omega) hio
    by_cases hkI : i = k
    · subst hkI
      rw [hoh] at hio
      cases hio
      have hdn : dh < n := by obtain ⟨d', h1, h2⟩ := hd0; rw [hdh] at h1; cases h1; exact h2
      have hag : Ag n ds (keepSlots (oh.looksAt ops) (E i) ++ base) a w := by
        refine ⟨ha.defers, ha.size, fun t q ht => ?_⟩
        rcases lk_append ht with h | h
        · obtain ⟨h1, h2⟩ := keepSlots_lk h
          obtain ⟨j, p, hj, hp, hpd, hEj⟩ := hEl _ _ _ (Nat.le_refl _) h2
          obtain ⟨e, he, hbe, hon'⟩ := (hpair j p (by omega) hp).2 t hpd h1
          have := hed e he hbe
          exact hI j p t q hj hp hpd hEj (by rw [← hon']; exact this)
        · exact ha.val t q h
      unfold wpOpIn
      rw [hoh]
      dsimp only
      have hw : Region.wanted oh (yielded ops a.tmps) = true := by simp [Region.wanted, hgh]
      rw [if_pos hw]
      refine wpIn_opY (hH a w hu hag) fun v w' hv => ?_
      refine late_order hu hok hT hA hC hkk E hE0 hE hbp hbase (fun o' ho' => by rw [hoh] at ho'; cases ho'; exact hdh) (fun a' ha' => hQ v w' a' hv ha') fuel _ _ (by simpa using hs) (fuel_set hlt hbi hc) ?_ ?_ ?_ (dn_set hlt hoh hed hD) ?_ ?_ ?_
      · intro j hj hjs
        rw [getD_set hlt, if_neg (by omega)]
        exact hno j (by omega) hjs
      · rw [getD_set hlt, if_pos rfl]
      · intro j hj hl
        rw [getD_set hlt, if_neg (by omega)] at hl
        cases hla : lateAt ops i j with
        | true => rfl
        | false =>
          have := heavy_all hL hD hoh hed (i - j) j rfl hj hla
          rw [this] at hl; cases hl
      · refine ⟨by rw [hdh]; exact ha.defers, by rw [hdh]; simp [Go.Act.put, ha.size], fun t q ht => ?_⟩
        have hne' : t ≠ dh := fun e => hbase t q ht i _ (by omega) hoh (by rw [hdh, e])
        rw [hdh, getD_put_ne hne']
        exact noPred_lk hbp ht (ha.val t q ht)
      · rw [hdh, getD_put_same (by rw [ha.size]; exact hdn)]
      · intro j p d' q hjk hp hpd hEj hpl hl
        have hne' : d' ≠ dh := fun ee => (hpair j p (by omega) hp).1 (by omega) (by rw [hdh, hpd, ee])
        rw [hdh, getD_put_ne hne']
        rw [getD_set hlt, if_neg (by omega)] at hl
        exact hpl.holds (hI j p d' q hjk hp hpd hEj hl)
    have hik : i < k := by omega
    obtain ⟨ph, d, hd, hup, hop, hEi⟩ := hE i o hik hio
    have hdn : d < n := by obtain ⟨d', h1, h2⟩ := hd0; rw [hd] at h1; cases h1; exact h2
    have hag : Ag n ds (keepSlots (o.looksAt ops) (E i) ++ base) a w := by
      refine ⟨ha.defers, ha.size, fun t q ht => ?_⟩
      rcases lk_append ht with h | h
      · obtain ⟨h1, h2⟩ := keepSlots_lk h
        obtain ⟨j, p, hj, hp, hpd, hEj⟩ := hEl _ _ _ (by omega) h2
        obtain ⟨e, he, hbe, hon'⟩ := (hpair j p (by omega) hp).2 t hpd h1
        have := hed e he hbe
        exact hI j p t q (by omega) hp hpd hEj (by rw [← hon']; exact this)
      · exact ha.val t q h
    have step : ∀ v w', Up w w' → ph.holds v w' → wpAnyIn (FR R) m P .any ops Q fuel (listed.setIfInBounds i true) (a.put o.dst v) w' := by
      intro v w' hu' hv
      refine ih _ _ _ (by simpa using hs) (fuel_set hlt hbi hc) ?_ (dn_set hlt hio hed hD) (hu.trans hu') ?_ ?_
      · intro j hj hjs
        rw [getD_set hlt, if_neg (by omega)]
        exact hno j hj hjs
      · refine ⟨by rw [hd]; exact ha.defers, by rw [hd]; simp [Go.Act.put, ha.size], fun t q ht => ?_⟩
        have hne : t ≠ d := fun e => hbase t q ht i o (by omega) hio (by rw [hd, e])
        rw [hd, getD_put_ne hne]
        exact noPred_lk hbp ht (ha.val t q ht)
      · intro j p d' q hjk hp hpd hEj hl
        by_cases e : j = i
        · subst e
          rw [hio] at hp
          cases hp
          rw [hd] at hpd
          cases hpd
          rw [hEi] at hEj
          cases hEj
          rw [hd, getD_put_same (by rw [ha.size]; exact hdn)]
          exact hv
        · have hne : d' ≠ d := fun ee => (hpair j p (by omega) hp).1 (fun ee => e ee.symm) (by rw [hd, hpd, ee])
          rw [hd, getD_put_ne hne]
          obtain ⟨q', d'', hd'', hup', _, hEj'⟩ := hE j p hjk hp
          rw [hEj] at hEj'
          cases hEj'
          rw [getD_set hlt, if_neg e] at hl
          exact hup' _ _ _ (hI j p d' q hjk hp hpd hEj hl) hu'
    have h2 := hop a w hu hag
    unfold wpOpIn
    rw [hio]
    dsimp only
    by_cases hw : Region.wanted o (yielded ops a.tmps) = true
    · rw [if_pos hw] at h2 ⊢
      exact wpIn_opY h2 fun v w' ⟨h3, h4⟩ => step v w' h3 h4
    · rw [if_neg hw] at h2 ⊢
      exact ⟨fun _ _ => trivial, step _ _ (Up.refl w) h2⟩
theorem CW.draws_heavy {id : Nat} {opsL : List Oper} (k : Nat) {oh : Oper} {dh : Nat} (PostH : Value → World → Prop) (hm : P.follows .mixedOrders = true) (hok : regOKk n opsL.toArray (k + 1) = true) (hT : tailOK opsL.toArray (k + 1) = true) (hA : aheadOK opsL.toArray = true) (hC : closOK opsL.toArray (k + 1) = true) (hL : lateOK opsL.toArray k = true)
    (hl : noPred l = true) {base : Env} (hb : dropSlots (dsts (opsL.take (k + 1))) l = base) (hoh : opsL[k]? = some oh) (hdh : oh.dst = some dh) (hgh : oh.guard = none)
    (h : HW P n ds opsL.toArray base w [] (opsL.take k) (fun env => (∀ a w', Up w w' → Ag n ds (keepSlots (oh.looksAt opsL.toArray) env ++ base) a w' → OpY P oh a w' PostH) ∧ ∀ v w', PostH v w' → LW R m P n ds opsL.toArray Q (opsL.drop (k + 1)) ((dh, .eq v) :: (dropPreds env ++ base)) w')) : CW R m P n ds (.region id opsL.toArray true) Q l w := by
  intro a ha
  obtain ⟨E, hE0, hK, hE⟩ := HW.phs _ _ h
  subst hb
  have hks : k + 1 ≤ opsL.length := by
    unfold regOKk at hok
    rw [Bool.and_eq_true] at hok
    simpa using Nat.le_of_ble_eq_true hok.1
  have hlen : (opsL.take k).length = k := by rw [List.length_take]; omega
  rw [hlen] at hK
  have hbp : noPred (dropSlots (dsts (opsL.take (k + 1))) l) = true := by
    have : ∀ (ks : List Nat) (l : Env), noPred l = true → noPred (dropSlots ks l) = true := by
      intro ks l
      induction l with
      | nil => intro _; rfl
      | cons p l ih =>
        obtain ⟨i, ph⟩ := p
        cases ph with
        | pred q => intro h; simp [noPred] at h
        | eq v => intro h; unfold dropSlots; cases memb ks i <;> simp [noPred] at h ⊢ <;> exact ih h
        | cond b v => intro h; unfold dropSlots; cases memb ks i <;> simp [noPred] at h ⊢ <;> exact ih h
    exact this _ _ hl
  refine wpIn_region_any hm (heavy_order (w0 := w) (base := dropSlots (dsts (opsL.take (k + 1))) l) (oh := oh) hok hT hA hC hL (by rw [List.size_toArray]; omega) E hE0 (fun i o hik ho => hE i o (by rw [List.getElem?_take_of_lt hik]; simpa using ho)) hbp ?_ (by simpa using hoh) hdh hgh hK.1 ?_ _ _ _ _ (by simp) ?_ ?_ ?_ (Up.drew w) ?_ ?_)
  · intro i ph hi j o hj ho hd
    obtain ⟨h1, h2⟩ := dropSlots_lk hi
    exact h1 (dsts_mem (by have := List.mem_of_getElem? (l := opsL.take (k + 1)) (i := j) (by rw [List.getElem?_take_of_lt hj]; simpa using ho); exact this) hd)
  · intro v w' a' hv ha'
    exact hK.2 v w' hv a' ha'
  · have : (Array.replicate opsL.toArray.size false).toList.countP (· == false) ≤ (Array.replicate opsL.toArray.size false).toList.length := List.countP_le_length
    simpa using this
  · intro j _ _
    rw [Array.getD_eq_getD_getElem?, Array.getElem?_replicate]
    split <;> rfl
  · intro i o _ hli
    rw [Array.getD_eq_getD_getElem?, Array.getElem?_replicate] at hli
    split at hli <;> simp at hli
  · exact ⟨ha.defers, ha.size, fun i ph hi => noPred_lk hl (dropSlots_lk hi).2 (ha.val _ _ (dropSlots_lk hi).2)⟩
  · intro j o d ph _ ho hd _ hlj
    rw [Array.getD_eq_getD_getElem?, Array.getElem?_replicate] at hlj
    split at hlj <;> simp at hlj
theorem REv.y {o : Oper} {a : Go.Act} {Post : Value → World → Prop} (h : REv P n ds l w o Post) (ha : Ag n ds l a w) : OpY P o a w Post := .inl (h a ha)
theorem LW.rn {o : Oper} {rest : List Oper} {Post : Value → World → Prop} (h : REv P n ds l w o Post) (hg : o.guard = none) (hd : o.dst = none) (hl : noPred l = true)
    (k : ∀ v w', Post v w' → LW R m P n ds ops Q rest l w') : LW R m P n ds ops Q (o :: rest) l w := fun a ha =>
  let ⟨v, w', hr, hp⟩ := h a ha
  wpListIn_plain hg fun K hK => wpIn_value hr (hK _ _ (k v w' hp _ (by rw [hd]; exact ha.world hl w')))
end
end Go.Wx
end
