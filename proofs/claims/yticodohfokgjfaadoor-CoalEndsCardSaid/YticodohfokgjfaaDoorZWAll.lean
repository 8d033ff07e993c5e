/- All that is printed of the functions of the program. -/
import Derived.Test.YticodohfokgjfaaDoorZWE
